/- Rivers told, and joined. -/
import Derived.Test.YtgkmonllkfgbdaaRe
namespace Go.Proofs.Ytgkmonllkfgbdaa
set_option linter.unusedSimpArgs false
set_option linter.unusedVariables false
open Go Cn Go.RowKit
def rv0 : Riv := ⟨[], [], []⟩
section
variable {B : Nat} {A W W' : World} {L L' : List Res} {p1 p2 p3 : Option Addr} {k1 k2 k3 : Nat} {r : Riv}
theorem c_impl_River_isNode (hB : B ≤ W.heap.size) (hv : RvS W p1 k1 p2 k2 p3 k3 r) (hs : r.small) (i : Int) :
    ACalls Try.prog B 63 [rvV p1 k1 p2 k2 p3 k3 r, .int .i64 i] W (fun v W' => v = .bool (rvOk r && (decide (0 ≤ i) && decide (i ≤ (r.ds.length : Int) - 1))) ∧ Hp B W W' []) := by
  have H0 : Hp B W W [] := Hp.new hB
  have hs0 := hs
  obtain ⟨s1, s2, s3⟩ := hs0
  refine acalls_of Try.func63 rfl Try.ntmps63 (Nat.le_of_ble_eq_true rfl) ?_
  repeat' (first
      | refine s_pure tabOk rfl rfl rfl rfl ?_
      | refine aops_nil ?_
      | refine thn_normal ?_
      | refine aw_seq ?_
      | refine aw_reg ?_
      | refine s_pass rfl rfl rfl ?_
      | refine s_len tabOk rfl rfl rfl rfl ?_
      | refine aw_true rfl ?_
      | refine aw_false rfl ?_
      | refine aw_block ?_
      | refine aw_skip ?_
      | refine aw_exit ?_
      | refine blk_exit ?_
      | refine blk_exit_other rfl ?_
      | refine blk_normal ?_
      | refine thn_exit ?_
      | refine thn_ret ?_
      | refine blk_ret ?_
      | refine rnd_ret ?_
      | refine rnd_exit ?_
      | refine aw_ret ?_
      | refine s_arith tabOk rfl rfl rfl rfl (by simp only [InR]; omega) ?_
      | ((fail_if_success refine s_told rfl rfl ?_); refine s_part rfl rfl rfl ?_ ?_ <;> intro hc <;> (first | replace hc := of_decide_eq_true hc | replace hc := of_decide_eq_false hc | replace hc := eq_of_beq hc | simp only [Bool.not_eq_true', Bool.not_eq_false', Bool.and_eq_true, Bool.or_eq_true, Bool.or_eq_false_iff, Bool.not_true, Bool.not_false, decide_eq_true_eq, decide_eq_false_iff_not, Bool.and_eq_false_imp, bne_iff_ne, ne_eq, beq_iff_eq, beq_eq_false_iff_ne, bne_eq_false_iff_eq, bne_self_eq_false, not_true_eq_false, eq_self, Bool.true_eq_false, Bool.false_eq_true] at hc | skip))
      | (refine aw_if rfl ?_ ?_ <;> intro hc <;> (first | replace hc := of_decide_eq_true hc | replace hc := of_decide_eq_false hc | replace hc := eq_of_beq hc | simp only [Bool.not_eq_true', Bool.not_eq_false', Bool.and_eq_true, Bool.or_eq_true, Bool.or_eq_false_iff, Bool.not_true, Bool.not_false, decide_eq_true_eq, decide_eq_false_iff_not, Bool.and_eq_false_imp, bne_iff_ne, ne_eq, beq_iff_eq, beq_eq_false_iff_ne, bne_eq_false_iff_eq, bne_self_eq_false, not_true_eq_false, eq_self, Bool.true_eq_false, Bool.false_eq_true] at hc | skip))
      | refine s_index1n tabOk rfl rfl rfl rfl (by omega) ?_
      | refine s_indexn tabOk rfl rfl rfl rfl (by omega) ?_
      | refine s_index1 tabOk rfl rfl rfl rfl (by omega) (by omega) ?_
      | refine sh_load tabOk (by assumption) rfl rfl rfl rfl (by repeat (first | exact List.Mem.head _ | apply List.Mem.tail)) (by rfl) (by rfl) ?_
      | refine sh_loada tabOk (by assumption) rfl rfl rfl rfl (by repeat (first | exact List.Mem.head _ | apply List.Mem.tail)) (by rfl) ?_
      | (refine sh_box (by assumption) rfl rfl rfl rfl rfl rfl ?_; intro _ _ _)
      | (refine sh_alloc tabOk (by assumption) rfl rfl rfl rfl rfl rfl ?_; intro _ _ _)
      | (refine sh_store tabOk (by assumption) rfl rfl rfl rfl rfl rfl (by repeat (first | exact Upd.here | apply Upd.there)) (by rfl) ?_; intro _ _)
      | (refine sh_lit tabOk (by assumption) rfl rfl rfl rfl rfl rfl rfl rfl rfl rfl rfl ?_; intro _ _ _)
      | refine sh_build tabOk rfl rfl rfl rfl rfl rfl ?_
      | refine rndh_ret ?_
      | refine rndh_exit ?_)
  refine s_call rfl rfl rfl rfl ent64 (c_impl_ValidRiver (Hp.size (by assumption)) (Hp.rvA (by assumption) hv) hs) ?_
  rintro _ W2 ⟨rfl, g2⟩
  have H2 := Hp.call0 (by assumption) g2
  repeat' (first
      | refine s_pure tabOk rfl rfl rfl rfl ?_
      | refine aops_nil ?_
      | refine thn_normal ?_
      | refine aw_seq ?_
      | refine aw_reg ?_
      | refine s_pass rfl rfl rfl ?_
      | refine s_len tabOk rfl rfl rfl rfl ?_
      | refine aw_true rfl ?_
      | refine aw_false rfl ?_
      | refine aw_block ?_
      | refine aw_skip ?_
      | refine aw_exit ?_
      | refine blk_exit ?_
      | refine blk_exit_other rfl ?_
      | refine blk_normal ?_
      | refine thn_exit ?_
      | refine thn_ret ?_
      | refine blk_ret ?_
      | refine rnd_ret ?_
      | refine rnd_exit ?_
      | refine aw_ret ?_
      | refine s_arith tabOk rfl rfl rfl rfl (by simp only [InR]; omega) ?_
      | ((fail_if_success refine s_told rfl rfl ?_); refine s_part rfl rfl rfl ?_ ?_ <;> intro hc <;> (first | replace hc := of_decide_eq_true hc | replace hc := of_decide_eq_false hc | replace hc := eq_of_beq hc | simp only [Bool.not_eq_true', Bool.not_eq_false', Bool.and_eq_true, Bool.or_eq_true, Bool.or_eq_false_iff, Bool.not_true, Bool.not_false, decide_eq_true_eq, decide_eq_false_iff_not, Bool.and_eq_false_imp, bne_iff_ne, ne_eq, beq_iff_eq, beq_eq_false_iff_ne, bne_eq_false_iff_eq, bne_self_eq_false, not_true_eq_false, eq_self, Bool.true_eq_false, Bool.false_eq_true] at hc | skip))
      | (refine aw_if rfl ?_ ?_ <;> intro hc <;> (first | replace hc := of_decide_eq_true hc | replace hc := of_decide_eq_false hc | replace hc := eq_of_beq hc | simp only [Bool.not_eq_true', Bool.not_eq_false', Bool.and_eq_true, Bool.or_eq_true, Bool.or_eq_false_iff, Bool.not_true, Bool.not_false, decide_eq_true_eq, decide_eq_false_iff_not, Bool.and_eq_false_imp, bne_iff_ne, ne_eq, beq_iff_eq, beq_eq_false_iff_ne, bne_eq_false_iff_eq, bne_self_eq_false, not_true_eq_false, eq_self, Bool.true_eq_false, Bool.false_eq_true] at hc | skip))
      | refine s_index1n tabOk rfl rfl rfl rfl (by omega) ?_
      | refine s_indexn tabOk rfl rfl rfl rfl (by omega) ?_
      | refine s_index1 tabOk rfl rfl rfl rfl (by omega) (by omega) ?_
      | refine sh_load tabOk (by assumption) rfl rfl rfl rfl (by repeat (first | exact List.Mem.head _ | apply List.Mem.tail)) (by rfl) (by rfl) ?_
      | refine sh_loada tabOk (by assumption) rfl rfl rfl rfl (by repeat (first | exact List.Mem.head _ | apply List.Mem.tail)) (by rfl) ?_
      | (refine sh_box (by assumption) rfl rfl rfl rfl rfl rfl ?_; intro _ _ _)
      | (refine sh_alloc tabOk (by assumption) rfl rfl rfl rfl rfl rfl ?_; intro _ _ _)
      | (refine sh_store tabOk (by assumption) rfl rfl rfl rfl rfl rfl (by repeat (first | exact Upd.here | apply Upd.there)) (by rfl) ?_; intro _ _)
      | (refine sh_lit tabOk (by assumption) rfl rfl rfl rfl rfl rfl rfl rfl rfl rfl rfl ?_; intro _ _ _)
      | refine sh_build tabOk rfl rfl rfl rfl rfl rfl ?_
      | refine rndh_ret ?_
      | refine rndh_exit ?_)
  · refine s_call rfl rfl rfl rfl ent82 (c_impl_within _ _ _) ?_
    rintro _ _ ⟨rfl, rfl⟩
    repeat' (first
      | refine s_pure tabOk rfl rfl rfl rfl ?_
      | refine aops_nil ?_
      | refine thn_normal ?_
      | refine aw_seq ?_
      | refine aw_reg ?_
      | refine s_pass rfl rfl rfl ?_
      | refine s_len tabOk rfl rfl rfl rfl ?_
      | refine aw_true rfl ?_
      | refine aw_false rfl ?_
      | refine aw_block ?_
      | refine aw_skip ?_
      | refine aw_exit ?_
      | refine blk_exit ?_
      | refine blk_exit_other rfl ?_
      | refine blk_normal ?_
      | refine thn_exit ?_
      | refine thn_ret ?_
      | refine blk_ret ?_
      | refine rnd_ret ?_
      | refine rnd_exit ?_
      | refine aw_ret ?_
      | refine s_arith tabOk rfl rfl rfl rfl (by simp only [InR]; omega) ?_
      | ((fail_if_success refine s_told rfl rfl ?_); refine s_part rfl rfl rfl ?_ ?_ <;> intro hc <;> (first | replace hc := of_decide_eq_true hc | replace hc := of_decide_eq_false hc | replace hc := eq_of_beq hc | simp only [Bool.not_eq_true', Bool.not_eq_false', Bool.and_eq_true, Bool.or_eq_true, Bool.or_eq_false_iff, Bool.not_true, Bool.not_false, decide_eq_true_eq, decide_eq_false_iff_not, Bool.and_eq_false_imp, bne_iff_ne, ne_eq, beq_iff_eq, beq_eq_false_iff_ne, bne_eq_false_iff_eq, bne_self_eq_false, not_true_eq_false, eq_self, Bool.true_eq_false, Bool.false_eq_true] at hc | skip))
      | (refine aw_if rfl ?_ ?_ <;> intro hc <;> (first | replace hc := of_decide_eq_true hc | replace hc := of_decide_eq_false hc | replace hc := eq_of_beq hc | simp only [Bool.not_eq_true', Bool.not_eq_false', Bool.and_eq_true, Bool.or_eq_true, Bool.or_eq_false_iff, Bool.not_true, Bool.not_false, decide_eq_true_eq, decide_eq_false_iff_not, Bool.and_eq_false_imp, bne_iff_ne, ne_eq, beq_iff_eq, beq_eq_false_iff_ne, bne_eq_false_iff_eq, bne_self_eq_false, not_true_eq_false, eq_self, Bool.true_eq_false, Bool.false_eq_true] at hc | skip))
      | refine s_index1n tabOk rfl rfl rfl rfl (by omega) ?_
      | refine s_indexn tabOk rfl rfl rfl rfl (by omega) ?_
      | refine s_index1 tabOk rfl rfl rfl rfl (by omega) (by omega) ?_
      | refine sh_load tabOk (by assumption) rfl rfl rfl rfl (by repeat (first | exact List.Mem.head _ | apply List.Mem.tail)) (by rfl) (by rfl) ?_
      | refine sh_loada tabOk (by assumption) rfl rfl rfl rfl (by repeat (first | exact List.Mem.head _ | apply List.Mem.tail)) (by rfl) ?_
      | (refine sh_box (by assumption) rfl rfl rfl rfl rfl rfl ?_; intro _ _ _)
      | (refine sh_alloc tabOk (by assumption) rfl rfl rfl rfl rfl rfl ?_; intro _ _ _)
      | (refine sh_store tabOk (by assumption) rfl rfl rfl rfl rfl rfl (by repeat (first | exact Upd.here | apply Upd.there)) (by rfl) ?_; intro _ _)
      | (refine sh_lit tabOk (by assumption) rfl rfl rfl rfl rfl rfl rfl rfl rfl rfl rfl ?_; intro _ _ _)
      | refine sh_build tabOk rfl rfl rfl rfl rfl rfl ?_
      | refine rndh_ret ?_
      | refine rndh_exit ?_)
    refine retK_ret tabOk (congrArg Array.toList Try.results63) (rv_tmp rfl rfl rv_nil) ?_
    exact ⟨by rw [hc]; rfl, H2.sub (by repeat (first | exact List.nil_sublist _ | refine List.Sublist.cons_cons _ ?_ | refine List.Sublist.cons _ ?_))⟩
  · refine retK_ret tabOk (congrArg Array.toList Try.results63) (rv_tmp rfl rfl rv_nil) ?_
    exact ⟨by rw [hc]; rfl, H2.sub (by repeat (first | exact List.nil_sublist _ | refine List.Sublist.cons_cons _ ?_ | refine List.Sublist.cons _ ?_))⟩
theorem c_spec_l06Has (hB : B ≤ W.heap.size) {b : Nat} {e : TypeId} (hb : (Res.blk b (rvC p1 k1 p2 k2 p3 k3 r) e).ok W) (hv : RvS W p1 k1 p2 k2 p3 k3 r) (hs : r.small) (i : Int) :
    ACalls Try.prog B 58 [.pointer (some ⟨b, 0, none⟩), .int .i64 i] W (fun v W' => v = .bool (rvOk r && (decide (0 ≤ i) && decide (i ≤ (r.ds.length : Int) - 1))) ∧ W' = W) := by
  have hs0 := hs
  obtain ⟨s1, s2, s3⟩ := hs0
  refine acalls_of Try.func58 rfl Try.ntmps58 (Nat.le_of_ble_eq_true rfl) ?_
  repeat' (first
      | refine s_pure tabOk rfl rfl rfl rfl ?_
      | refine aops_nil ?_
      | refine thn_normal ?_
      | refine aw_seq ?_
      | refine aw_reg ?_
      | refine s_pass rfl rfl rfl ?_
      | refine s_len tabOk rfl rfl rfl rfl ?_
      | refine aw_true rfl ?_
      | refine aw_false rfl ?_
      | refine aw_block ?_
      | refine aw_skip ?_
      | refine aw_exit ?_
      | refine blk_exit ?_
      | refine blk_exit_other rfl ?_
      | refine blk_normal ?_
      | refine thn_exit ?_
      | refine thn_ret ?_
      | refine blk_ret ?_
      | refine rnd_ret ?_
      | refine rnd_exit ?_
      | refine aw_ret ?_
      | refine s_arith tabOk rfl rfl rfl rfl (by simp only [InR]; omega) ?_
      | ((fail_if_success refine s_told rfl rfl ?_); refine s_part rfl rfl rfl ?_ ?_ <;> intro hc <;> (first | replace hc := of_decide_eq_true hc | replace hc := of_decide_eq_false hc | replace hc := eq_of_beq hc | simp only [Bool.not_eq_true', Bool.not_eq_false', Bool.and_eq_true, Bool.or_eq_true, Bool.or_eq_false_iff, Bool.not_true, Bool.not_false, decide_eq_true_eq, decide_eq_false_iff_not, Bool.and_eq_false_imp, bne_iff_ne, ne_eq, beq_iff_eq, beq_eq_false_iff_ne, bne_eq_false_iff_eq, bne_self_eq_false, not_true_eq_false, eq_self, Bool.true_eq_false, Bool.false_eq_true] at hc | skip))
      | (refine aw_if rfl ?_ ?_ <;> intro hc <;> (first | replace hc := of_decide_eq_true hc | replace hc := of_decide_eq_false hc | replace hc := eq_of_beq hc | simp only [Bool.not_eq_true', Bool.not_eq_false', Bool.and_eq_true, Bool.or_eq_true, Bool.or_eq_false_iff, Bool.not_true, Bool.not_false, decide_eq_true_eq, decide_eq_false_iff_not, Bool.and_eq_false_imp, bne_iff_ne, ne_eq, beq_iff_eq, beq_eq_false_iff_ne, bne_eq_false_iff_eq, bne_self_eq_false, not_true_eq_false, eq_self, Bool.true_eq_false, Bool.false_eq_true] at hc | skip))
      | refine s_index1n tabOk rfl rfl rfl rfl (by omega) ?_
      | refine s_indexn tabOk rfl rfl rfl rfl (by omega) ?_
      | refine s_index1 tabOk rfl rfl rfl rfl (by omega) (by omega) ?_
      | refine sh_load tabOk (by assumption) rfl rfl rfl rfl (by repeat (first | exact List.Mem.head _ | apply List.Mem.tail)) (by rfl) (by rfl) ?_
      | refine sh_loada tabOk (by assumption) rfl rfl rfl rfl (by repeat (first | exact List.Mem.head _ | apply List.Mem.tail)) (by rfl) ?_
      | (refine sh_box (by assumption) rfl rfl rfl rfl rfl rfl ?_; intro _ _ _)
      | (refine sh_alloc tabOk (by assumption) rfl rfl rfl rfl rfl rfl ?_; intro _ _ _)
      | (refine sh_store tabOk (by assumption) rfl rfl rfl rfl rfl rfl (by repeat (first | exact Upd.here | apply Upd.there)) (by rfl) ?_; intro _ _)
      | (refine sh_lit tabOk (by assumption) rfl rfl rfl rfl rfl rfl rfl rfl rfl rfl rfl ?_; intro _ _ _)
      | refine sh_build tabOk rfl rfl rfl rfl rfl rfl ?_
      | refine rndh_ret ?_
      | refine rndh_exit ?_)
  refine s_call rfl rfl rfl rfl ent59 (c_spec_l06Is hB hb hv hs) ?_
  rintro _ _ ⟨rfl, rfl⟩
  repeat' (first
      | refine s_pure tabOk rfl rfl rfl rfl ?_
      | refine aops_nil ?_
      | refine thn_normal ?_
      | refine aw_seq ?_
      | refine aw_reg ?_
      | refine s_pass rfl rfl rfl ?_
      | refine s_len tabOk rfl rfl rfl rfl ?_
      | refine aw_true rfl ?_
      | refine aw_false rfl ?_
      | refine aw_block ?_
      | refine aw_skip ?_
      | refine aw_exit ?_
      | refine blk_exit ?_
      | refine blk_exit_other rfl ?_
      | refine blk_normal ?_
      | refine thn_exit ?_
      | refine thn_ret ?_
      | refine blk_ret ?_
      | refine rnd_ret ?_
      | refine rnd_exit ?_
      | refine aw_ret ?_
      | refine s_arith tabOk rfl rfl rfl rfl (by simp only [InR]; omega) ?_
      | ((fail_if_success refine s_told rfl rfl ?_); refine s_part rfl rfl rfl ?_ ?_ <;> intro hc <;> (first | replace hc := of_decide_eq_true hc | replace hc := of_decide_eq_false hc | replace hc := eq_of_beq hc | simp only [Bool.not_eq_true', Bool.not_eq_false', Bool.and_eq_true, Bool.or_eq_true, Bool.or_eq_false_iff, Bool.not_true, Bool.not_false, decide_eq_true_eq, decide_eq_false_iff_not, Bool.and_eq_false_imp, bne_iff_ne, ne_eq, beq_iff_eq, beq_eq_false_iff_ne, bne_eq_false_iff_eq, bne_self_eq_false, not_true_eq_false, eq_self, Bool.true_eq_false, Bool.false_eq_true] at hc | skip))
      | (refine aw_if rfl ?_ ?_ <;> intro hc <;> (first | replace hc := of_decide_eq_true hc | replace hc := of_decide_eq_false hc | replace hc := eq_of_beq hc | simp only [Bool.not_eq_true', Bool.not_eq_false', Bool.and_eq_true, Bool.or_eq_true, Bool.or_eq_false_iff, Bool.not_true, Bool.not_false, decide_eq_true_eq, decide_eq_false_iff_not, Bool.and_eq_false_imp, bne_iff_ne, ne_eq, beq_iff_eq, beq_eq_false_iff_ne, bne_eq_false_iff_eq, bne_self_eq_false, not_true_eq_false, eq_self, Bool.true_eq_false, Bool.false_eq_true] at hc | skip))
      | refine s_index1n tabOk rfl rfl rfl rfl (by omega) ?_
      | refine s_indexn tabOk rfl rfl rfl rfl (by omega) ?_
      | refine s_index1 tabOk rfl rfl rfl rfl (by omega) (by omega) ?_
      | refine sh_load tabOk (by assumption) rfl rfl rfl rfl (by repeat (first | exact List.Mem.head _ | apply List.Mem.tail)) (by rfl) (by rfl) ?_
      | refine sh_loada tabOk (by assumption) rfl rfl rfl rfl (by repeat (first | exact List.Mem.head _ | apply List.Mem.tail)) (by rfl) ?_
      | (refine sh_box (by assumption) rfl rfl rfl rfl rfl rfl ?_; intro _ _ _)
      | (refine sh_alloc tabOk (by assumption) rfl rfl rfl rfl rfl rfl ?_; intro _ _ _)
      | (refine sh_store tabOk (by assumption) rfl rfl rfl rfl rfl rfl (by repeat (first | exact Upd.here | apply Upd.there)) (by rfl) ?_; intro _ _)
      | (refine sh_lit tabOk (by assumption) rfl rfl rfl rfl rfl rfl rfl rfl rfl rfl rfl ?_; intro _ _ _)
      | refine sh_build tabOk rfl rfl rfl rfl rfl rfl ?_
      | refine rndh_ret ?_
      | refine rndh_exit ?_)
  · refine s_givesv rfl rfl rfl (gh_load tabOk rfl hb rfl rfl) ?_
    repeat' (first
      | refine s_pure tabOk rfl rfl rfl rfl ?_
      | refine aops_nil ?_
      | refine thn_normal ?_
      | refine aw_seq ?_
      | refine aw_reg ?_
      | refine s_pass rfl rfl rfl ?_
      | refine s_len tabOk rfl rfl rfl rfl ?_
      | refine aw_true rfl ?_
      | refine aw_false rfl ?_
      | refine aw_block ?_
      | refine aw_skip ?_
      | refine aw_exit ?_
      | refine blk_exit ?_
      | refine blk_exit_other rfl ?_
      | refine blk_normal ?_
      | refine thn_exit ?_
      | refine thn_ret ?_
      | refine blk_ret ?_
      | refine rnd_ret ?_
      | refine rnd_exit ?_
      | refine aw_ret ?_
      | refine s_arith tabOk rfl rfl rfl rfl (by simp only [InR]; omega) ?_
      | ((fail_if_success refine s_told rfl rfl ?_); refine s_part rfl rfl rfl ?_ ?_ <;> intro hc <;> (first | replace hc := of_decide_eq_true hc | replace hc := of_decide_eq_false hc | replace hc := eq_of_beq hc | simp only [Bool.not_eq_true', Bool.not_eq_false', Bool.and_eq_true, Bool.or_eq_true, Bool.or_eq_false_iff, Bool.not_true, Bool.not_false, decide_eq_true_eq, decide_eq_false_iff_not, Bool.and_eq_false_imp, bne_iff_ne, ne_eq, beq_iff_eq, beq_eq_false_iff_ne, bne_eq_false_iff_eq, bne_self_eq_false, not_true_eq_false, eq_self, Bool.true_eq_false, Bool.false_eq_true] at hc | skip))
      | (refine aw_if rfl ?_ ?_ <;> intro hc <;> (first | replace hc := of_decide_eq_true hc | replace hc := of_decide_eq_false hc | replace hc := eq_of_beq hc | simp only [Bool.not_eq_true', Bool.not_eq_false', Bool.and_eq_true, Bool.or_eq_true, Bool.or_eq_false_iff, Bool.not_true, Bool.not_false, decide_eq_true_eq, decide_eq_false_iff_not, Bool.and_eq_false_imp, bne_iff_ne, ne_eq, beq_iff_eq, beq_eq_false_iff_ne, bne_eq_false_iff_eq, bne_self_eq_false, not_true_eq_false, eq_self, Bool.true_eq_false, Bool.false_eq_true] at hc | skip))
      | refine s_index1n tabOk rfl rfl rfl rfl (by omega) ?_
      | refine s_indexn tabOk rfl rfl rfl rfl (by omega) ?_
      | refine s_index1 tabOk rfl rfl rfl rfl (by omega) (by omega) ?_
      | refine sh_load tabOk (by assumption) rfl rfl rfl rfl (by repeat (first | exact List.Mem.head _ | apply List.Mem.tail)) (by rfl) (by rfl) ?_
      | refine sh_loada tabOk (by assumption) rfl rfl rfl rfl (by repeat (first | exact List.Mem.head _ | apply List.Mem.tail)) (by rfl) ?_
      | (refine sh_box (by assumption) rfl rfl rfl rfl rfl rfl ?_; intro _ _ _)
      | (refine sh_alloc tabOk (by assumption) rfl rfl rfl rfl rfl rfl ?_; intro _ _ _)
      | (refine sh_store tabOk (by assumption) rfl rfl rfl rfl rfl rfl (by repeat (first | exact Upd.here | apply Upd.there)) (by rfl) ?_; intro _ _)
      | (refine sh_lit tabOk (by assumption) rfl rfl rfl rfl rfl rfl rfl rfl rfl rfl rfl ?_; intro _ _ _)
      | refine sh_build tabOk rfl rfl rfl rfl rfl rfl ?_
      | refine rndh_ret ?_
      | refine rndh_exit ?_)
    refine s_call rfl rfl rfl rfl ent81 (c_spec_l00In _ _ _) ?_
    rintro _ _ ⟨rfl, rfl⟩
    repeat' (first
      | refine s_pure tabOk rfl rfl rfl rfl ?_
      | refine aops_nil ?_
      | refine thn_normal ?_
      | refine aw_seq ?_
      | refine aw_reg ?_
      | refine s_pass rfl rfl rfl ?_
      | refine s_len tabOk rfl rfl rfl rfl ?_
      | refine aw_true rfl ?_
      | refine aw_false rfl ?_
      | refine aw_block ?_
      | refine aw_skip ?_
      | refine aw_exit ?_
      | refine blk_exit ?_
      | refine blk_exit_other rfl ?_
      | refine blk_normal ?_
      | refine thn_exit ?_
      | refine thn_ret ?_
      | refine blk_ret ?_
      | refine rnd_ret ?_
      | refine rnd_exit ?_
      | refine aw_ret ?_
      | refine s_arith tabOk rfl rfl rfl rfl (by simp only [InR]; omega) ?_
      | ((fail_if_success refine s_told rfl rfl ?_); refine s_part rfl rfl rfl ?_ ?_ <;> intro hc <;> (first | replace hc := of_decide_eq_true hc | replace hc := of_decide_eq_false hc | replace hc := eq_of_beq hc | simp only [Bool.not_eq_true', Bool.not_eq_false', Bool.and_eq_true, Bool.or_eq_true, Bool.or_eq_false_iff, Bool.not_true, Bool.not_false, decide_eq_true_eq, decide_eq_false_iff_not, Bool.and_eq_false_imp, bne_iff_ne, ne_eq, beq_iff_eq, beq_eq_false_iff_ne, bne_eq_false_iff_eq, bne_self_eq_false, not_true_eq_false, eq_self, Bool.true_eq_false, Bool.false_eq_true] at hc | skip))
      | (refine aw_if rfl ?_ ?_ <;> intro hc <;> (first | replace hc := of_decide_eq_true hc | replace hc := of_decide_eq_false hc | replace hc := eq_of_beq hc | simp only [Bool.not_eq_true', Bool.not_eq_false', Bool.and_eq_true, Bool.or_eq_true, Bool.or_eq_false_iff, Bool.not_true, Bool.not_false, decide_eq_true_eq, decide_eq_false_iff_not, Bool.and_eq_false_imp, bne_iff_ne, ne_eq, beq_iff_eq, beq_eq_false_iff_ne, bne_eq_false_iff_eq, bne_self_eq_false, not_true_eq_false, eq_self, Bool.true_eq_false, Bool.false_eq_true] at hc | skip))
      | refine s_index1n tabOk rfl rfl rfl rfl (by omega) ?_
      | refine s_indexn tabOk rfl rfl rfl rfl (by omega) ?_
      | refine s_index1 tabOk rfl rfl rfl rfl (by omega) (by omega) ?_
      | refine sh_load tabOk (by assumption) rfl rfl rfl rfl (by repeat (first | exact List.Mem.head _ | apply List.Mem.tail)) (by rfl) (by rfl) ?_
      | refine sh_loada tabOk (by assumption) rfl rfl rfl rfl (by repeat (first | exact List.Mem.head _ | apply List.Mem.tail)) (by rfl) ?_
      | (refine sh_box (by assumption) rfl rfl rfl rfl rfl rfl ?_; intro _ _ _)
      | (refine sh_alloc tabOk (by assumption) rfl rfl rfl rfl rfl rfl ?_; intro _ _ _)
      | (refine sh_store tabOk (by assumption) rfl rfl rfl rfl rfl rfl (by repeat (first | exact Upd.here | apply Upd.there)) (by rfl) ?_; intro _ _)
      | (refine sh_lit tabOk (by assumption) rfl rfl rfl rfl rfl rfl rfl rfl rfl rfl rfl ?_; intro _ _ _)
      | refine sh_build tabOk rfl rfl rfl rfl rfl rfl ?_
      | refine rndh_ret ?_
      | refine rndh_exit ?_)
    refine retK_ret tabOk (congrArg Array.toList Try.results58) (rv_tmp rfl rfl rv_nil) ?_
    exact ⟨by rw [hc]; rfl, rfl⟩
  · refine retK_ret tabOk (congrArg Array.toList Try.results58) (rv_tmp rfl rfl rv_nil) ?_
    exact ⟨by rw [hc]; rfl, rfl⟩
theorem c_impl_toldRiver (hB : B ≤ W.heap.size) (hv : RvS W p1 k1 p2 k2 p3 k3 r) (hs : r.small) :
    ACalls Try.prog B 66 [rvV p1 k1 p2 k2 p3 k3 r] W (fun v W' => v = .tuple #[if rvOk r then rvV p1 k1 p2 k2 p3 k3 r else .agg #[.slice none 0 0, .slice none 0 0, .slice none 0 0], .bool (rvOk r)] ∧ Hp B W W' []) := by
  have H0 : Hp B W W [] := Hp.new hB
  refine acalls_of Try.func66 rfl Try.ntmps66 (Nat.le_of_ble_eq_true rfl) ?_
  repeat' (first
      | refine s_pure tabOk rfl rfl rfl rfl ?_
      | refine aops_nil ?_
      | refine thn_normal ?_
      | refine aw_seq ?_
      | refine aw_reg ?_
      | refine s_pass rfl rfl rfl ?_
      | refine s_len tabOk rfl rfl rfl rfl ?_
      | refine aw_true rfl ?_
      | refine aw_false rfl ?_
      | refine aw_block ?_
      | refine aw_skip ?_
      | refine aw_exit ?_
      | refine blk_exit ?_
      | refine blk_exit_other rfl ?_
      | refine blk_normal ?_
      | refine thn_exit ?_
      | refine thn_ret ?_
      | refine blk_ret ?_
      | refine rnd_ret ?_
      | refine rnd_exit ?_
      | refine aw_ret ?_
      | refine s_arith tabOk rfl rfl rfl rfl (by simp only [InR]; omega) ?_
      | ((fail_if_success refine s_told rfl rfl ?_); refine s_part rfl rfl rfl ?_ ?_ <;> intro hc <;> (first | replace hc := of_decide_eq_true hc | replace hc := of_decide_eq_false hc | replace hc := eq_of_beq hc | simp only [Bool.not_eq_true', Bool.not_eq_false', Bool.and_eq_true, Bool.or_eq_true, Bool.or_eq_false_iff, Bool.not_true, Bool.not_false, decide_eq_true_eq, decide_eq_false_iff_not, Bool.and_eq_false_imp, bne_iff_ne, ne_eq, beq_iff_eq, beq_eq_false_iff_ne, bne_eq_false_iff_eq, bne_self_eq_false, not_true_eq_false, eq_self, Bool.true_eq_false, Bool.false_eq_true] at hc | skip))
      | (refine aw_if rfl ?_ ?_ <;> intro hc <;> (first | replace hc := of_decide_eq_true hc | replace hc := of_decide_eq_false hc | replace hc := eq_of_beq hc | simp only [Bool.not_eq_true', Bool.not_eq_false', Bool.and_eq_true, Bool.or_eq_true, Bool.or_eq_false_iff, Bool.not_true, Bool.not_false, decide_eq_true_eq, decide_eq_false_iff_not, Bool.and_eq_false_imp, bne_iff_ne, ne_eq, beq_iff_eq, beq_eq_false_iff_ne, bne_eq_false_iff_eq, bne_self_eq_false, not_true_eq_false, eq_self, Bool.true_eq_false, Bool.false_eq_true] at hc | skip))
      | refine s_index1n tabOk rfl rfl rfl rfl (by omega) ?_
      | refine s_indexn tabOk rfl rfl rfl rfl (by omega) ?_
      | refine s_index1 tabOk rfl rfl rfl rfl (by omega) (by omega) ?_
      | refine sh_load tabOk (by assumption) rfl rfl rfl rfl (by repeat (first | exact List.Mem.head _ | apply List.Mem.tail)) (by rfl) (by rfl) ?_
      | refine sh_loada tabOk (by assumption) rfl rfl rfl rfl (by repeat (first | exact List.Mem.head _ | apply List.Mem.tail)) (by rfl) ?_
      | (refine sh_box (by assumption) rfl rfl rfl rfl rfl rfl ?_; intro _ _ _)
      | (refine sh_alloc tabOk (by assumption) rfl rfl rfl rfl rfl rfl ?_; intro _ _ _)
      | (refine sh_store tabOk (by assumption) rfl rfl rfl rfl rfl rfl (by repeat (first | exact Upd.here | apply Upd.there)) (by rfl) ?_; intro _ _)
      | (refine sh_lit tabOk (by assumption) rfl rfl rfl rfl rfl rfl rfl rfl rfl rfl rfl ?_; intro _ _ _)
      | refine sh_build tabOk rfl rfl rfl rfl rfl rfl ?_
      | refine rndh_ret ?_
      | refine rndh_exit ?_)
  refine s_call rfl rfl rfl rfl ent64 (c_impl_ValidRiver (Hp.size (by assumption)) (Hp.rvA (by assumption) hv) hs) ?_
  rintro _ W2 ⟨rfl, g2⟩
  have H2 := Hp.call0 (by assumption) g2
  repeat' (first
      | refine s_pure tabOk rfl rfl rfl rfl ?_
      | refine aops_nil ?_
      | refine thn_normal ?_
      | refine aw_seq ?_
      | refine aw_reg ?_
      | refine s_pass rfl rfl rfl ?_
      | refine s_len tabOk rfl rfl rfl rfl ?_
      | refine aw_true rfl ?_
      | refine aw_false rfl ?_
      | refine aw_block ?_
      | refine aw_skip ?_
      | refine aw_exit ?_
      | refine blk_exit ?_
      | refine blk_exit_other rfl ?_
      | refine blk_normal ?_
      | refine thn_exit ?_
      | refine thn_ret ?_
      | refine blk_ret ?_
      | refine rnd_ret ?_
      | refine rnd_exit ?_
      | refine aw_ret ?_
      | refine s_arith tabOk rfl rfl rfl rfl (by simp only [InR]; omega) ?_
      | ((fail_if_success refine s_told rfl rfl ?_); refine s_part rfl rfl rfl ?_ ?_ <;> intro hc <;> (first | replace hc := of_decide_eq_true hc | replace hc := of_decide_eq_false hc | replace hc := eq_of_beq hc | simp only [Bool.not_eq_true', Bool.not_eq_false', Bool.and_eq_true, Bool.or_eq_true, Bool.or_eq_false_iff, Bool.not_true, Bool.not_false, decide_eq_true_eq, decide_eq_false_iff_not, Bool.and_eq_false_imp, bne_iff_ne, ne_eq, beq_iff_eq, beq_eq_false_iff_ne, bne_eq_false_iff_eq, bne_self_eq_false, not_true_eq_false, eq_self, Bool.true_eq_false, Bool.false_eq_true] at hc | skip))
      | (refine aw_if rfl ?_ ?_ <;> intro hc <;> (first | replace hc := of_decide_eq_true hc | replace hc := of_decide_eq_false hc | replace hc := eq_of_beq hc | simp only [Bool.not_eq_true', Bool.not_eq_false', Bool.and_eq_true, Bool.or_eq_true, Bool.or_eq_false_iff, Bool.not_true, Bool.not_false, decide_eq_true_eq, decide_eq_false_iff_not, Bool.and_eq_false_imp, bne_iff_ne, ne_eq, beq_iff_eq, beq_eq_false_iff_ne, bne_eq_false_iff_eq, bne_self_eq_false, not_true_eq_false, eq_self, Bool.true_eq_false, Bool.false_eq_true] at hc | skip))
      | refine s_index1n tabOk rfl rfl rfl rfl (by omega) ?_
      | refine s_indexn tabOk rfl rfl rfl rfl (by omega) ?_
      | refine s_index1 tabOk rfl rfl rfl rfl (by omega) (by omega) ?_
      | refine sh_load tabOk (by assumption) rfl rfl rfl rfl (by repeat (first | exact List.Mem.head _ | apply List.Mem.tail)) (by rfl) (by rfl) ?_
      | refine sh_loada tabOk (by assumption) rfl rfl rfl rfl (by repeat (first | exact List.Mem.head _ | apply List.Mem.tail)) (by rfl) ?_
      | (refine sh_box (by assumption) rfl rfl rfl rfl rfl rfl ?_; intro _ _ _)
      | (refine sh_alloc tabOk (by assumption) rfl rfl rfl rfl rfl rfl ?_; intro _ _ _)
      | (refine sh_store tabOk (by assumption) rfl rfl rfl rfl rfl rfl (by repeat (first | exact Upd.here | apply Upd.there)) (by rfl) ?_; intro _ _)
      | (refine sh_lit tabOk (by assumption) rfl rfl rfl rfl rfl rfl rfl rfl rfl rfl rfl ?_; intro _ _ _)
      | refine sh_build tabOk rfl rfl rfl rfl rfl rfl ?_
      | refine rndh_ret ?_
      | refine rndh_exit ?_)
  · refine retK_ret tabOk (congrArg Array.toList Try.results66) (by repeat (first | exact rv_nil | apply rv_tmp rfl rfl | apply rv_cellH (by assumption) rfl rfl rfl (by repeat (first | exact List.Mem.head _ | apply List.Mem.tail)) rfl)) ?_
    exact ⟨by rw [hc]; rfl, Hp.sub (by assumption) (by repeat (first | exact List.nil_sublist _ | refine List.Sublist.cons_cons _ ?_ | refine List.Sublist.cons _ ?_))⟩
  · refine retK_ret tabOk (congrArg Array.toList Try.results66) (by repeat (first | exact rv_nil | apply rv_tmp rfl rfl | apply rv_cellH (by assumption) rfl rfl rfl (by repeat (first | exact List.Mem.head _ | apply List.Mem.tail)) rfl)) ?_
    exact ⟨by rw [hc]; rfl, Hp.sub (by assumption) (by repeat (first | exact List.nil_sublist _ | refine List.Sublist.cons_cons _ ?_ | refine List.Sublist.cons _ ?_))⟩
theorem c_spec_l06Give (hB : B ≤ W.heap.size) (hv : RvS W p1 k1 p2 k2 p3 k3 r) (hs : r.small) :
    ACalls Try.prog B 61 [rvV p1 k1 p2 k2 p3 k3 r] W (fun v W' => v = .tuple #[if rvOk r then rvV p1 k1 p2 k2 p3 k3 r else .agg #[.slice none 0 0, .slice none 0 0, .slice none 0 0], .bool (rvOk r)] ∧ Hp B W W' []) := by
  have H0 : Hp B W W [] := Hp.new hB
  refine acalls_of Try.func61 rfl Try.ntmps61 (Nat.le_of_ble_eq_true rfl) ?_
  repeat' (first
      | refine s_pure tabOk rfl rfl rfl rfl ?_
      | refine aops_nil ?_
      | refine thn_normal ?_
      | refine aw_seq ?_
      | refine aw_reg ?_
      | refine s_pass rfl rfl rfl ?_
      | refine s_len tabOk rfl rfl rfl rfl ?_
      | refine aw_true rfl ?_
      | refine aw_false rfl ?_
      | refine aw_block ?_
      | refine aw_skip ?_
      | refine aw_exit ?_
      | refine blk_exit ?_
      | refine blk_exit_other rfl ?_
      | refine blk_normal ?_
      | refine thn_exit ?_
      | refine thn_ret ?_
      | refine blk_ret ?_
      | refine rnd_ret ?_
      | refine rnd_exit ?_
      | refine aw_ret ?_
      | refine s_arith tabOk rfl rfl rfl rfl (by simp only [InR]; omega) ?_
      | ((fail_if_success refine s_told rfl rfl ?_); refine s_part rfl rfl rfl ?_ ?_ <;> intro hc <;> (first | replace hc := of_decide_eq_true hc | replace hc := of_decide_eq_false hc | replace hc := eq_of_beq hc | simp only [Bool.not_eq_true', Bool.not_eq_false', Bool.and_eq_true, Bool.or_eq_true, Bool.or_eq_false_iff, Bool.not_true, Bool.not_false, decide_eq_true_eq, decide_eq_false_iff_not, Bool.and_eq_false_imp, bne_iff_ne, ne_eq, beq_iff_eq, beq_eq_false_iff_ne, bne_eq_false_iff_eq, bne_self_eq_false, not_true_eq_false, eq_self, Bool.true_eq_false, Bool.false_eq_true] at hc | skip))
      | (refine aw_if rfl ?_ ?_ <;> intro hc <;> (first | replace hc := of_decide_eq_true hc | replace hc := of_decide_eq_false hc | replace hc := eq_of_beq hc | simp only [Bool.not_eq_true', Bool.not_eq_false', Bool.and_eq_true, Bool.or_eq_true, Bool.or_eq_false_iff, Bool.not_true, Bool.not_false, decide_eq_true_eq, decide_eq_false_iff_not, Bool.and_eq_false_imp, bne_iff_ne, ne_eq, beq_iff_eq, beq_eq_false_iff_ne, bne_eq_false_iff_eq, bne_self_eq_false, not_true_eq_false, eq_self, Bool.true_eq_false, Bool.false_eq_true] at hc | skip))
      | refine s_index1n tabOk rfl rfl rfl rfl (by omega) ?_
      | refine s_indexn tabOk rfl rfl rfl rfl (by omega) ?_
      | refine s_index1 tabOk rfl rfl rfl rfl (by omega) (by omega) ?_
      | refine sh_load tabOk (by assumption) rfl rfl rfl rfl (by repeat (first | exact List.Mem.head _ | apply List.Mem.tail)) (by rfl) (by rfl) ?_
      | refine sh_loada tabOk (by assumption) rfl rfl rfl rfl (by repeat (first | exact List.Mem.head _ | apply List.Mem.tail)) (by rfl) ?_
      | (refine sh_box (by assumption) rfl rfl rfl rfl rfl rfl ?_; intro _ _ _)
      | (refine sh_alloc tabOk (by assumption) rfl rfl rfl rfl rfl rfl ?_; intro _ _ _)
      | (refine sh_store tabOk (by assumption) rfl rfl rfl rfl rfl rfl (by repeat (first | exact Upd.here | apply Upd.there)) (by rfl) ?_; intro _ _)
      | (refine sh_lit tabOk (by assumption) rfl rfl rfl rfl rfl rfl rfl rfl rfl rfl rfl ?_; intro _ _ _)
      | refine sh_build tabOk rfl rfl rfl rfl rfl rfl ?_
      | refine rndh_ret ?_
      | refine rndh_exit ?_)
  rename_i b1 W1 H1 b2 W2 H2
  refine s_call rfl rfl rfl rfl ent59 (c_spec_l06Is H2.size (H2.ok _ (by repeat (first | exact List.Mem.head _ | apply List.Mem.tail))) (Hp.rvA H2 hv) hs) ?_
  rintro _ _ ⟨rfl, rfl⟩
  repeat' (first
      | refine s_pure tabOk rfl rfl rfl rfl ?_
      | refine aops_nil ?_
      | refine thn_normal ?_
      | refine aw_seq ?_
      | refine aw_reg ?_
      | refine s_pass rfl rfl rfl ?_
      | refine s_len tabOk rfl rfl rfl rfl ?_
      | refine aw_true rfl ?_
      | refine aw_false rfl ?_
      | refine aw_block ?_
      | refine aw_skip ?_
      | refine aw_exit ?_
      | refine blk_exit ?_
      | refine blk_exit_other rfl ?_
      | refine blk_normal ?_
      | refine thn_exit ?_
      | refine thn_ret ?_
      | refine blk_ret ?_
      | refine rnd_ret ?_
      | refine rnd_exit ?_
      | refine aw_ret ?_
      | refine s_arith tabOk rfl rfl rfl rfl (by simp only [InR]; omega) ?_
      | ((fail_if_success refine s_told rfl rfl ?_); refine s_part rfl rfl rfl ?_ ?_ <;> intro hc <;> (first | replace hc := of_decide_eq_true hc | replace hc := of_decide_eq_false hc | replace hc := eq_of_beq hc | simp only [Bool.not_eq_true', Bool.not_eq_false', Bool.and_eq_true, Bool.or_eq_true, Bool.or_eq_false_iff, Bool.not_true, Bool.not_false, decide_eq_true_eq, decide_eq_false_iff_not, Bool.and_eq_false_imp, bne_iff_ne, ne_eq, beq_iff_eq, beq_eq_false_iff_ne, bne_eq_false_iff_eq, bne_self_eq_false, not_true_eq_false, eq_self, Bool.true_eq_false, Bool.false_eq_true] at hc | skip))
      | (refine aw_if rfl ?_ ?_ <;> intro hc <;> (first | replace hc := of_decide_eq_true hc | replace hc := of_decide_eq_false hc | replace hc := eq_of_beq hc | simp only [Bool.not_eq_true', Bool.not_eq_false', Bool.and_eq_true, Bool.or_eq_true, Bool.or_eq_false_iff, Bool.not_true, Bool.not_false, decide_eq_true_eq, decide_eq_false_iff_not, Bool.and_eq_false_imp, bne_iff_ne, ne_eq, beq_iff_eq, beq_eq_false_iff_ne, bne_eq_false_iff_eq, bne_self_eq_false, not_true_eq_false, eq_self, Bool.true_eq_false, Bool.false_eq_true] at hc | skip))
      | refine s_index1n tabOk rfl rfl rfl rfl (by omega) ?_
      | refine s_indexn tabOk rfl rfl rfl rfl (by omega) ?_
      | refine s_index1 tabOk rfl rfl rfl rfl (by omega) (by omega) ?_
      | refine sh_load tabOk (by assumption) rfl rfl rfl rfl (by repeat (first | exact List.Mem.head _ | apply List.Mem.tail)) (by rfl) (by rfl) ?_
      | refine sh_loada tabOk (by assumption) rfl rfl rfl rfl (by repeat (first | exact List.Mem.head _ | apply List.Mem.tail)) (by rfl) ?_
      | (refine sh_box (by assumption) rfl rfl rfl rfl rfl rfl ?_; intro _ _ _)
      | (refine sh_alloc tabOk (by assumption) rfl rfl rfl rfl rfl rfl ?_; intro _ _ _)
      | (refine sh_store tabOk (by assumption) rfl rfl rfl rfl rfl rfl (by repeat (first | exact Upd.here | apply Upd.there)) (by rfl) ?_; intro _ _)
      | (refine sh_lit tabOk (by assumption) rfl rfl rfl rfl rfl rfl rfl rfl rfl rfl rfl ?_; intro _ _ _)
      | refine sh_build tabOk rfl rfl rfl rfl rfl rfl ?_
      | refine rndh_ret ?_
      | refine rndh_exit ?_)
  · refine retK_ret tabOk (congrArg Array.toList Try.results61) (by repeat (first | exact rv_nil | apply rv_tmp rfl rfl | apply rv_cellH (by assumption) rfl rfl rfl (by repeat (first | exact List.Mem.head _ | apply List.Mem.tail)) rfl)) ?_
    exact ⟨by rw [hc]; rfl, Hp.sub (by assumption) (by repeat (first | exact List.nil_sublist _ | refine List.Sublist.cons_cons _ ?_ | refine List.Sublist.cons _ ?_))⟩
  · refine retK_ret tabOk (congrArg Array.toList Try.results61) (by repeat (first | exact rv_nil | apply rv_tmp rfl rfl | apply rv_cellH (by assumption) rfl rfl rfl (by repeat (first | exact List.Mem.head _ | apply List.Mem.tail)) rfl)) ?_
    exact ⟨by rw [hc]; rfl, Hp.sub (by assumption) (by repeat (first | exact List.nil_sublist _ | refine List.Sublist.cons_cons _ ?_ | refine List.Sublist.cons _ ?_))⟩
end
/-! ### joined -/
def joinTo (r s : Riv) (q : Int) (i : Nat) : List Int := r.ds ++ (s.ds.take i).map fun x => if x < 0 then q else x + (r.ds.length : Int)
theorem joinTo_zero (r s : Riv) (q : Int) : joinTo r s q 0 = r.ds := by simp [joinTo]
theorem joinTo_succ {r s : Riv} {q : Int} {i : Nat} (h : i < s.ds.length) : joinTo r s q (i + 1) = joinTo r s q i ++ [if s.ds.getD i 0 < 0 then q else s.ds.getD i 0 + (r.ds.length : Int)] := by
  have h2 : s.ds.getD i 0 = s.ds[i] := by simp [List.getD_eq_getElem?_getD, h]
  rw [h2]
  unfold joinTo
  rw [List.take_succ_eq_append_getElem h, List.map_append, List.append_assoc]
  rfl
theorem joinTo_lo {r s : Riv} {q : Int} {i : Nat} (h : i < s.ds.length) (hx : s.ds.getD i 0 < 0) : joinTo r s q (i + 1) = joinTo r s q i ++ [q] := by rw [joinTo_succ h, if_pos hx]
theorem joinTo_hi {r s : Riv} {q : Int} {i : Nat} (h : i < s.ds.length) (hx : ¬ s.ds.getD i 0 < 0) : joinTo r s q (i + 1) = joinTo r s q i ++ [s.ds.getD i 0 + (r.ds.length : Int)] := by rw [joinTo_succ h, if_neg hx]
theorem joinTo_len {r s : Riv} {q : Int} {i : Nat} (h : i ≤ s.ds.length) : (joinTo r s q i).length = r.ds.length + i := by simp [joinTo]; omega
attribute [irreducible] joinTo
def joinR (r s : Riv) (q : Int) : Riv := ⟨joinTo r s q s.ds.length, r.dm ++ s.dm, r.ws ++ s.ws⟩
def joinOk (r s : Riv) (q : Int) : Bool := (rvOk r && (decide (0 ≤ q) && decide (q ≤ (r.ds.length : Int) - 1))) && rvOk s && rvOk (joinR r s q)
def joinV (r s : Riv) (q : Int) : Riv := if joinOk r s q then joinR r s q else rv0
def JoinH (B : Nat) (W W' : World) (v : Value) (r s : Riv) (q : Int) : Prop :=
  ∃ p1 k1 p2 k2 p3 k3, v = .tuple #[rvV p1 k1 p2 k2 p3 k3 (joinV r s q), .bool (joinOk r s q)] ∧ Hp B W W' (rvR p1 k1 p2 k2 p3 k3 (joinV r s q))
theorem hp_rv0 {B : Nat} {W W' : World} (hb : Hp B W W' []) : Hp B W W' (rvR none 0 none 0 none 0 rv0) := by
  have h1 : ∀ {e : TypeId} {sz : Nat} {L : List Res}, Hp B W W' L → Hp B W W' (.row e sz (.slice none 0 0) 0 [] :: L) := fun {e sz L} H => by
    refine ⟨H.hB, H.below, ?_, ?_, ?_⟩
    · intro r hr
      rcases List.mem_cons.1 hr with rfl | hr
      · exact ⟨World.ownsRow_nil _ _ _ _, rfl, fun x hx => by cases hx⟩
      · exact H.ok r hr
    · intro r hr b hf
      rcases List.mem_cons.1 hr with rfl | hr
      · cases hf
      · exact H.own r hr b hf
    · exact List.pairwise_cons.2 ⟨fun r hr b hf => (by cases hf), H.sep⟩
  exact h1 (h1 (h1 hb))
theorem JoinH.bad {B : Nat} {W W' : World} {r s : Riv} {q : Int} (hk : joinOk r s q = false) (hb : Hp B W W' []) : JoinH B W W' (.tuple #[.agg #[.slice none 0 0, .slice none 0 0, .slice none 0 0], .bool false]) r s q := by
  unfold JoinH joinV
  rw [hk]
  exact ⟨none, 0, none, 0, none, 0, rfl, hp_rv0 hb⟩
theorem JoinH.good {B : Nat} {W W' : World} {r s : Riv} {q : Int} {p1 p2 p3 : Option Addr} {k1 k2 k3 : Nat} (hk : joinOk r s q = true) (hb : Hp B W W' (rvR p1 k1 p2 k2 p3 k3 (joinR r s q))) : JoinH B W W' (.tuple #[rvV p1 k1 p2 k2 p3 k3 (joinR r s q), .bool true]) r s q := by
  unfold JoinH joinV
  rw [hk]
  exact ⟨p1, k1, p2, k2, p3, k3, rfl, hb⟩
theorem rvOk_len {r : Riv} (h : rvOk r = true) : 1 ≤ r.ds.length ∧ r.ds.length ≤ 12 ∧ r.dm.length = r.ds.length ∧ r.ws.length = r.ds.length := by
  obtain ⟨h1, h2, h3, h4, -⟩ := (rvOk_iff r).1 h
  exact ⟨h1, h2, h3, h4⟩
theorem rvOk_ds {r : Riv} (h : rvOk r = true) {i : Nat} (hi : i < r.ds.length) : -1 ≤ r.ds.getD i 0 ∧ r.ds.getD i 0 ≤ (r.ds.length : Int) - 1 := inAll_get ((rvOk_iff r).1 h).2.2.2.2.1 hi
section
variable {B : Nat} {A W W' : World} {L L' : List Res} {p1 p2 p3 p4 p5 p6 : Option Addr} {k1 k2 k3 k4 k5 k6 : Nat} {r s : Riv}
theorem c_impl_JoinRivers (hB : B ≤ W.heap.size) (hv : RvS W p1 k1 p2 k2 p3 k3 r) (hs : r.small) (hv' : RvS W p4 k4 p5 k5 p6 k6 s) (hs' : s.small) (q : Int) :
    ACalls Try.prog B 14 [rvV p1 k1 p2 k2 p3 k3 r, rvV p4 k4 p5 k5 p6 k6 s, .int .i64 q] W (fun v W' => JoinH B W W' v r s q) := by
  have H0 : Hp B W W [] := Hp.new hB
  refine acalls_of Try.func14 rfl Try.ntmps14 (Nat.le_of_ble_eq_true rfl) ?_
  repeat' (first
      | refine s_pure tabOk rfl rfl rfl rfl ?_
      | refine aops_nil ?_
      | refine thn_normal ?_
      | refine aw_seq ?_
      | refine aw_reg ?_
      | refine s_pass rfl rfl rfl ?_
      | refine s_len tabOk rfl rfl rfl rfl ?_
      | refine aw_true rfl ?_
      | refine aw_false rfl ?_
      | refine aw_block ?_
      | refine aw_skip ?_
      | refine aw_exit ?_
      | refine blk_exit ?_
      | refine blk_exit_other rfl ?_
      | refine blk_normal ?_
      | refine thn_exit ?_
      | refine thn_ret ?_
      | refine blk_ret ?_
      | refine rnd_ret ?_
      | refine rnd_exit ?_
      | refine aw_ret ?_
      | refine s_arith tabOk rfl rfl rfl rfl (by simp only [InR]; omega) ?_
      | ((fail_if_success refine s_told rfl rfl ?_); refine s_part rfl rfl rfl ?_ ?_ <;> intro hc <;> (first | replace hc := of_decide_eq_true hc | replace hc := of_decide_eq_false hc | replace hc := eq_of_beq hc | simp only [Bool.not_eq_true', Bool.not_eq_false', Bool.and_eq_true, Bool.or_eq_true, Bool.or_eq_false_iff, Bool.not_true, Bool.not_false, decide_eq_true_eq, decide_eq_false_iff_not, Bool.and_eq_false_imp, bne_iff_ne, ne_eq, beq_iff_eq, beq_eq_false_iff_ne, bne_eq_false_iff_eq, bne_self_eq_false, not_true_eq_false, eq_self, Bool.true_eq_false, Bool.false_eq_true] at hc | skip))
      | (refine aw_if rfl ?_ ?_ <;> intro hc <;> (first | replace hc := of_decide_eq_true hc | replace hc := of_decide_eq_false hc | replace hc := eq_of_beq hc | simp only [Bool.not_eq_true', Bool.not_eq_false', Bool.and_eq_true, Bool.or_eq_true, Bool.or_eq_false_iff, Bool.not_true, Bool.not_false, decide_eq_true_eq, decide_eq_false_iff_not, Bool.and_eq_false_imp, bne_iff_ne, ne_eq, beq_iff_eq, beq_eq_false_iff_ne, bne_eq_false_iff_eq, bne_self_eq_false, not_true_eq_false, eq_self, Bool.true_eq_false, Bool.false_eq_true] at hc | skip))
      | refine s_index1n tabOk rfl rfl rfl rfl (by omega) ?_
      | refine s_indexn tabOk rfl rfl rfl rfl (by omega) ?_
      | refine s_index1 tabOk rfl rfl rfl rfl (by omega) (by omega) ?_
      | refine sh_load tabOk (by assumption) rfl rfl rfl rfl (by repeat (first | exact List.Mem.head _ | apply List.Mem.tail)) (by rfl) (by rfl) ?_
      | refine sh_loada tabOk (by assumption) rfl rfl rfl rfl (by repeat (first | exact List.Mem.head _ | apply List.Mem.tail)) (by rfl) ?_
      | (refine sh_box (by assumption) rfl rfl rfl rfl rfl rfl ?_; intro _ _ _)
      | (refine sh_alloc tabOk (by assumption) rfl rfl rfl rfl rfl rfl ?_; intro _ _ _)
      | (refine sh_store tabOk (by assumption) rfl rfl rfl rfl rfl rfl (by repeat (first | exact Upd.here | apply Upd.there)) (by rfl) ?_; intro _ _)
      | (refine sh_lit tabOk (by assumption) rfl rfl rfl rfl rfl rfl rfl rfl rfl rfl rfl ?_; intro _ _ _)
      | refine sh_build tabOk rfl rfl rfl rfl rfl rfl ?_
      | refine rndh_ret ?_
      | refine rndh_exit ?_)
  refine s_call rfl rfl rfl rfl ent63 (c_impl_River_isNode (Hp.size (by assumption)) (Hp.rvA (by assumption) hv) hs q) ?_
  rintro _ W2 ⟨rfl, g2⟩
  have H2 := Hp.call0 (by assumption) g2
  generalize hb0 : (rvOk r && (decide (0 ≤ q) && decide (q ≤ (r.ds.length : Int) - 1))) = b0
  repeat' (first
      | refine s_pure tabOk rfl rfl rfl rfl ?_
      | refine aops_nil ?_
      | refine thn_normal ?_
      | refine aw_seq ?_
      | refine aw_reg ?_
      | refine s_pass rfl rfl rfl ?_
      | refine s_len tabOk rfl rfl rfl rfl ?_
      | refine aw_true rfl ?_
      | refine aw_false rfl ?_
      | refine aw_block ?_
      | refine aw_skip ?_
      | refine aw_exit ?_
      | refine blk_exit ?_
      | refine blk_exit_other rfl ?_
      | refine blk_normal ?_
      | refine thn_exit ?_
      | refine thn_ret ?_
      | refine blk_ret ?_
      | refine rnd_ret ?_
      | refine rnd_exit ?_
      | refine aw_ret ?_
      | refine s_arith tabOk rfl rfl rfl rfl (by simp only [InR]; omega) ?_
      | ((fail_if_success refine s_told rfl rfl ?_); refine s_part rfl rfl rfl ?_ ?_ <;> intro hc <;> (first | replace hc := of_decide_eq_true hc | replace hc := of_decide_eq_false hc | replace hc := eq_of_beq hc | simp only [Bool.not_eq_true', Bool.not_eq_false', Bool.and_eq_true, Bool.or_eq_true, Bool.or_eq_false_iff, Bool.not_true, Bool.not_false, decide_eq_true_eq, decide_eq_false_iff_not, Bool.and_eq_false_imp, bne_iff_ne, ne_eq, beq_iff_eq, beq_eq_false_iff_ne, bne_eq_false_iff_eq, bne_self_eq_false, not_true_eq_false, eq_self, Bool.true_eq_false, Bool.false_eq_true] at hc | skip))
      | (refine aw_if rfl ?_ ?_ <;> intro hc <;> (first | replace hc := of_decide_eq_true hc | replace hc := of_decide_eq_false hc | replace hc := eq_of_beq hc | simp only [Bool.not_eq_true', Bool.not_eq_false', Bool.and_eq_true, Bool.or_eq_true, Bool.or_eq_false_iff, Bool.not_true, Bool.not_false, decide_eq_true_eq, decide_eq_false_iff_not, Bool.and_eq_false_imp, bne_iff_ne, ne_eq, beq_iff_eq, beq_eq_false_iff_ne, bne_eq_false_iff_eq, bne_self_eq_false, not_true_eq_false, eq_self, Bool.true_eq_false, Bool.false_eq_true] at hc | skip))
      | refine s_index1n tabOk rfl rfl rfl rfl (by omega) ?_
      | refine s_indexn tabOk rfl rfl rfl rfl (by omega) ?_
      | refine s_index1 tabOk rfl rfl rfl rfl (by omega) (by omega) ?_
      | refine sh_load tabOk (by assumption) rfl rfl rfl rfl (by repeat (first | exact List.Mem.head _ | apply List.Mem.tail)) (by rfl) (by rfl) ?_
      | refine sh_loada tabOk (by assumption) rfl rfl rfl rfl (by repeat (first | exact List.Mem.head _ | apply List.Mem.tail)) (by rfl) ?_
      | (refine sh_box (by assumption) rfl rfl rfl rfl rfl rfl ?_; intro _ _ _)
      | (refine sh_alloc tabOk (by assumption) rfl rfl rfl rfl rfl rfl ?_; intro _ _ _)
      | (refine sh_store tabOk (by assumption) rfl rfl rfl rfl rfl rfl (by repeat (first | exact Upd.here | apply Upd.there)) (by rfl) ?_; intro _ _)
      | (refine sh_lit tabOk (by assumption) rfl rfl rfl rfl rfl rfl rfl rfl rfl rfl rfl ?_; intro _ _ _)
      | refine sh_build tabOk rfl rfl rfl rfl rfl rfl ?_
      | refine rndh_ret ?_
      | refine rndh_exit ?_)
  · refine retK_ret tabOk (congrArg Array.toList Try.results14) (by repeat (first | exact rv_nil | apply rv_tmp rfl rfl | apply rv_cellH (by assumption) rfl rfl rfl (by repeat (first | exact List.Mem.head _ | apply List.Mem.tail)) rfl)) ?_
    exact JoinH.bad (by unfold joinOk; rw [hb0, hc]; rfl) (Hp.sub (by assumption) (by repeat (first | exact List.nil_sublist _ | refine List.Sublist.cons_cons _ ?_ | refine List.Sublist.cons _ ?_)))
  have e0 := hb0.trans hc
  clear hc
  refine s_call rfl rfl rfl rfl ent64 (c_impl_ValidRiver H2.size (Hp.rvA H2 hv') hs') ?_
  rintro _ W3 ⟨rfl, g3⟩
  have H3 := H2.call0 g3
  repeat' (first
      | refine s_pure tabOk rfl rfl rfl rfl ?_
      | refine aops_nil ?_
      | refine thn_normal ?_
      | refine aw_seq ?_
      | refine aw_reg ?_
      | refine s_pass rfl rfl rfl ?_
      | refine s_len tabOk rfl rfl rfl rfl ?_
      | refine aw_true rfl ?_
      | refine aw_false rfl ?_
      | refine aw_block ?_
      | refine aw_skip ?_
      | refine aw_exit ?_
      | refine blk_exit ?_
      | refine blk_exit_other rfl ?_
      | refine blk_normal ?_
      | refine thn_exit ?_
      | refine thn_ret ?_
      | refine blk_ret ?_
      | refine rnd_ret ?_
      | refine rnd_exit ?_
      | refine aw_ret ?_
      | refine s_arith tabOk rfl rfl rfl rfl (by simp only [InR]; omega) ?_
      | ((fail_if_success refine s_told rfl rfl ?_); refine s_part rfl rfl rfl ?_ ?_ <;> intro hc <;> (first | replace hc := of_decide_eq_true hc | replace hc := of_decide_eq_false hc | replace hc := eq_of_beq hc | simp only [Bool.not_eq_true', Bool.not_eq_false', Bool.and_eq_true, Bool.or_eq_true, Bool.or_eq_false_iff, Bool.not_true, Bool.not_false, decide_eq_true_eq, decide_eq_false_iff_not, Bool.and_eq_false_imp, bne_iff_ne, ne_eq, beq_iff_eq, beq_eq_false_iff_ne, bne_eq_false_iff_eq, bne_self_eq_false, not_true_eq_false, eq_self, Bool.true_eq_false, Bool.false_eq_true] at hc | skip))
      | (refine aw_if rfl ?_ ?_ <;> intro hc <;> (first | replace hc := of_decide_eq_true hc | replace hc := of_decide_eq_false hc | replace hc := eq_of_beq hc | simp only [Bool.not_eq_true', Bool.not_eq_false', Bool.and_eq_true, Bool.or_eq_true, Bool.or_eq_false_iff, Bool.not_true, Bool.not_false, decide_eq_true_eq, decide_eq_false_iff_not, Bool.and_eq_false_imp, bne_iff_ne, ne_eq, beq_iff_eq, beq_eq_false_iff_ne, bne_eq_false_iff_eq, bne_self_eq_false, not_true_eq_false, eq_self, Bool.true_eq_false, Bool.false_eq_true] at hc | skip))
      | refine s_index1n tabOk rfl rfl rfl rfl (by omega) ?_
      | refine s_indexn tabOk rfl rfl rfl rfl (by omega) ?_
      | refine s_index1 tabOk rfl rfl rfl rfl (by omega) (by omega) ?_
      | refine sh_load tabOk (by assumption) rfl rfl rfl rfl (by repeat (first | exact List.Mem.head _ | apply List.Mem.tail)) (by rfl) (by rfl) ?_
      | refine sh_loada tabOk (by assumption) rfl rfl rfl rfl (by repeat (first | exact List.Mem.head _ | apply List.Mem.tail)) (by rfl) ?_
      | (refine sh_box (by assumption) rfl rfl rfl rfl rfl rfl ?_; intro _ _ _)
      | (refine sh_alloc tabOk (by assumption) rfl rfl rfl rfl rfl rfl ?_; intro _ _ _)
      | (refine sh_store tabOk (by assumption) rfl rfl rfl rfl rfl rfl (by repeat (first | exact Upd.here | apply Upd.there)) (by rfl) ?_; intro _ _)
      | (refine sh_lit tabOk (by assumption) rfl rfl rfl rfl rfl rfl rfl rfl rfl rfl rfl ?_; intro _ _ _)
      | refine sh_build tabOk rfl rfl rfl rfl rfl rfl ?_
      | refine rndh_ret ?_
      | refine rndh_exit ?_)
  · refine retK_ret tabOk (congrArg Array.toList Try.results14) (by repeat (first | exact rv_nil | apply rv_tmp rfl rfl | apply rv_cellH (by assumption) rfl rfl rfl (by repeat (first | exact List.Mem.head _ | apply List.Mem.tail)) rfl)) ?_
    exact JoinH.bad (by unfold joinOk; rw [hc]; simp) (Hp.sub (by assumption) (by repeat (first | exact List.nil_sublist _ | refine List.Sublist.cons_cons _ ?_ | refine List.Sublist.cons _ ?_)))
  have e4 := hc
  clear hc
  simp only [Bool.and_eq_true, decide_eq_true_eq] at e0
  obtain ⟨e1, e2, e3⟩ := e0
  obtain ⟨n1, n2, n3, n4⟩ := rvOk_len e1
  obtain ⟨m1, m2, m3, m4⟩ := rvOk_len e4
  refine s_call rfl rfl rfl rfl ent65 (c_impl_River_cloned H3.size (Hp.rvA H3 hv) hs) ?_
  rintro _ W4 ⟨q1, j1, q2, j2, q3, j3, rfl, g4⟩
  have H4 := H3.call3 g4
  repeat' (first
      | refine s_pure tabOk rfl rfl rfl rfl ?_
      | refine aops_nil ?_
      | refine thn_normal ?_
      | refine aw_seq ?_
      | refine aw_reg ?_
      | refine s_pass rfl rfl rfl ?_
      | refine s_len tabOk rfl rfl rfl rfl ?_
      | refine aw_true rfl ?_
      | refine aw_false rfl ?_
      | refine aw_block ?_
      | refine aw_skip ?_
      | refine aw_exit ?_
      | refine blk_exit ?_
      | refine blk_exit_other rfl ?_
      | refine blk_normal ?_
      | refine thn_exit ?_
      | refine thn_ret ?_
      | refine blk_ret ?_
      | refine rnd_ret ?_
      | refine rnd_exit ?_
      | refine aw_ret ?_
      | refine s_arith tabOk rfl rfl rfl rfl (by simp only [InR]; omega) ?_
      | ((fail_if_success refine s_told rfl rfl ?_); refine s_part rfl rfl rfl ?_ ?_ <;> intro hc <;> (first | replace hc := of_decide_eq_true hc | replace hc := of_decide_eq_false hc | replace hc := eq_of_beq hc | simp only [Bool.not_eq_true', Bool.not_eq_false', Bool.and_eq_true, Bool.or_eq_true, Bool.or_eq_false_iff, Bool.not_true, Bool.not_false, decide_eq_true_eq, decide_eq_false_iff_not, Bool.and_eq_false_imp, bne_iff_ne, ne_eq, beq_iff_eq, beq_eq_false_iff_ne, bne_eq_false_iff_eq, bne_self_eq_false, not_true_eq_false, eq_self, Bool.true_eq_false, Bool.false_eq_true] at hc | skip))
      | (refine aw_if rfl ?_ ?_ <;> intro hc <;> (first | replace hc := of_decide_eq_true hc | replace hc := of_decide_eq_false hc | replace hc := eq_of_beq hc | simp only [Bool.not_eq_true', Bool.not_eq_false', Bool.and_eq_true, Bool.or_eq_true, Bool.or_eq_false_iff, Bool.not_true, Bool.not_false, decide_eq_true_eq, decide_eq_false_iff_not, Bool.and_eq_false_imp, bne_iff_ne, ne_eq, beq_iff_eq, beq_eq_false_iff_ne, bne_eq_false_iff_eq, bne_self_eq_false, not_true_eq_false, eq_self, Bool.true_eq_false, Bool.false_eq_true] at hc | skip))
      | refine s_index1n tabOk rfl rfl rfl rfl (by omega) ?_
      | refine s_indexn tabOk rfl rfl rfl rfl (by omega) ?_
      | refine s_index1 tabOk rfl rfl rfl rfl (by omega) (by omega) ?_
      | refine sh_load tabOk (by assumption) rfl rfl rfl rfl (by repeat (first | exact List.Mem.head _ | apply List.Mem.tail)) (by rfl) (by rfl) ?_
      | refine sh_loada tabOk (by assumption) rfl rfl rfl rfl (by repeat (first | exact List.Mem.head _ | apply List.Mem.tail)) (by rfl) ?_
      | (refine sh_box (by assumption) rfl rfl rfl rfl rfl rfl ?_; intro _ _ _)
      | (refine sh_alloc tabOk (by assumption) rfl rfl rfl rfl rfl rfl ?_; intro _ _ _)
      | (refine sh_store tabOk (by assumption) rfl rfl rfl rfl rfl rfl (by repeat (first | exact Upd.here | apply Upd.there)) (by rfl) ?_; intro _ _)
      | (refine sh_lit tabOk (by assumption) rfl rfl rfl rfl rfl rfl rfl rfl rfl rfl rfl ?_; intro _ _ _)
      | refine sh_build tabOk rfl rfl rfl rfl rfl rfl ?_
      | refine rndh_ret ?_
      | refine rndh_exit ?_)
  rename_i b3 X1 G1 b2 X2 G2 b1 X3 G3 b8 X4 G4 W5 H5
  obtain ⟨bs, os, rfl, hr⟩ := hv'.d.read (by omega)
  refine aw_loopH (fun x : Nat × Option Addr × Nat => [(26, .int .i64 x.1), (25, .int .i64 s.ds.length), (24, .slice (some ⟨bs, os, none⟩) s.ds.length k4), (8, .pointer (some ⟨b8, 0, none⟩)), (4, .pointer (some ⟨b2, 0, none⟩)), (3, .pointer (some ⟨b3, 0, none⟩)), (2, .int .i64 q), (6, .pointer (some ⟨b1, 0, none⟩)), (7, .bool false)])
    (fun x => [.blk b8 [.slice x.2.1 (r.ds.length + x.1) x.2.2, .slice q2 r.dm.length j2, .slice q3 r.ws.length j3] 29, .row 2 1 (.slice x.2.1 (r.ds.length + x.1) x.2.2) (r.ds.length + x.1) (iC (joinTo r s q x.1)), .row 75 4 (.slice q2 r.dm.length j2) r.dm.length (dCs r.dm), .row 2 1 (.slice q3 r.ws.length j3) r.ws.length (iC r.ws), .blk b1 [.slice none 0 0, .slice none 0 0, .slice none 0 0] 29, .blk b2 (rvC (some ⟨bs, os, none⟩) k4 p5 k5 p6 k6 s) 29, .blk b3 (rvC p1 k1 p2 k2 p3 k3 r) 29])
    (fun x => x.1 ≤ s.ds.length) (fun x => s.ds.length - x.1) (0, q1, j1) (by omega) (by dsimp only; rw [joinTo_zero]; exact H5.picks (by repeat (first | exact Picks.nil | (apply Picks.cons; (repeat (first | exact Pick.here | apply Pick.there)))))) (by dsimp only; exact (by repeat (first | exact less_nil | refine less_cons rfl ?_))) ?_
  rintro ⟨i, ad, cp⟩ W6 hi H6
  dsimp only at hi H6 ⊢
  repeat' (first
      | refine s_pure tabOk rfl rfl rfl rfl ?_
      | refine aops_nil ?_
      | refine thn_normal ?_
      | refine aw_seq ?_
      | refine aw_reg ?_
      | refine s_pass rfl rfl rfl ?_
      | refine s_len tabOk rfl rfl rfl rfl ?_
      | refine aw_true rfl ?_
      | refine aw_false rfl ?_
      | refine aw_block ?_
      | refine aw_skip ?_
      | refine aw_exit ?_
      | refine blk_exit ?_
      | refine blk_exit_other rfl ?_
      | refine blk_normal ?_
      | refine thn_exit ?_
      | refine thn_ret ?_
      | refine blk_ret ?_
      | refine rnd_ret ?_
      | refine rnd_exit ?_
      | refine aw_ret ?_
      | refine s_arith tabOk rfl rfl rfl rfl (by simp only [InR]; omega) ?_
      | ((fail_if_success refine s_told rfl rfl ?_); refine s_part rfl rfl rfl ?_ ?_ <;> intro hc <;> (first | replace hc := of_decide_eq_true hc | replace hc := of_decide_eq_false hc | replace hc := eq_of_beq hc | simp only [Bool.not_eq_true', Bool.not_eq_false', Bool.and_eq_true, Bool.or_eq_true, Bool.or_eq_false_iff, Bool.not_true, Bool.not_false, decide_eq_true_eq, decide_eq_false_iff_not, Bool.and_eq_false_imp, bne_iff_ne, ne_eq, beq_iff_eq, beq_eq_false_iff_ne, bne_eq_false_iff_eq, bne_self_eq_false, not_true_eq_false, eq_self, Bool.true_eq_false, Bool.false_eq_true] at hc | skip))
      | (refine aw_if rfl ?_ ?_ <;> intro hc <;> (first | replace hc := of_decide_eq_true hc | replace hc := of_decide_eq_false hc | replace hc := eq_of_beq hc | simp only [Bool.not_eq_true', Bool.not_eq_false', Bool.and_eq_true, Bool.or_eq_true, Bool.or_eq_false_iff, Bool.not_true, Bool.not_false, decide_eq_true_eq, decide_eq_false_iff_not, Bool.and_eq_false_imp, bne_iff_ne, ne_eq, beq_iff_eq, beq_eq_false_iff_ne, bne_eq_false_iff_eq, bne_self_eq_false, not_true_eq_false, eq_self, Bool.true_eq_false, Bool.false_eq_true] at hc | skip))
      | refine s_index1n tabOk rfl rfl rfl rfl (by omega) ?_
      | refine s_indexn tabOk rfl rfl rfl rfl (by omega) ?_
      | refine s_index1 tabOk rfl rfl rfl rfl (by omega) (by omega) ?_
      | refine sh_load tabOk (by assumption) rfl rfl rfl rfl (by repeat (first | exact List.Mem.head _ | apply List.Mem.tail)) (by rfl) (by rfl) ?_
      | refine sh_loada tabOk (by assumption) rfl rfl rfl rfl (by repeat (first | exact List.Mem.head _ | apply List.Mem.tail)) (by rfl) ?_
      | (refine sh_box (by assumption) rfl rfl rfl rfl rfl rfl ?_; intro _ _ _)
      | (refine sh_alloc tabOk (by assumption) rfl rfl rfl rfl rfl rfl ?_; intro _ _ _)
      | (refine sh_store tabOk (by assumption) rfl rfl rfl rfl rfl rfl (by repeat (first | exact Upd.here | apply Upd.there)) (by rfl) ?_; intro _ _)
      | (refine sh_lit tabOk (by assumption) rfl rfl rfl rfl rfl rfl rfl rfl rfl rfl rfl ?_; intro _ _ _)
      | refine sh_build tabOk rfl rfl rfl rfl rfl rfl ?_
      | refine rndh_ret ?_
      | refine rndh_exit ?_)
  · refine sh_readT tabOk 0 rfl rfl rfl rfl (H6.rd hr) rfl (by omega) ?_
    repeat' (first
      | refine s_pure tabOk rfl rfl rfl rfl ?_
      | refine aops_nil ?_
      | refine thn_normal ?_
      | refine aw_seq ?_
      | refine aw_reg ?_
      | refine s_pass rfl rfl rfl ?_
      | refine s_len tabOk rfl rfl rfl rfl ?_
      | refine aw_true rfl ?_
      | refine aw_false rfl ?_
      | refine aw_block ?_
      | refine aw_skip ?_
      | refine aw_exit ?_
      | refine blk_exit ?_
      | refine blk_exit_other rfl ?_
      | refine blk_normal ?_
      | refine thn_exit ?_
      | refine thn_ret ?_
      | refine blk_ret ?_
      | refine rnd_ret ?_
      | refine rnd_exit ?_
      | refine aw_ret ?_
      | refine s_arith tabOk rfl rfl rfl rfl (by simp only [InR]; omega) ?_
      | ((fail_if_success refine s_told rfl rfl ?_); refine s_part rfl rfl rfl ?_ ?_ <;> intro hc <;> (first | replace hc := of_decide_eq_true hc | replace hc := of_decide_eq_false hc | replace hc := eq_of_beq hc | simp only [Bool.not_eq_true', Bool.not_eq_false', Bool.and_eq_true, Bool.or_eq_true, Bool.or_eq_false_iff, Bool.not_true, Bool.not_false, decide_eq_true_eq, decide_eq_false_iff_not, Bool.and_eq_false_imp, bne_iff_ne, ne_eq, beq_iff_eq, beq_eq_false_iff_ne, bne_eq_false_iff_eq, bne_self_eq_false, not_true_eq_false, eq_self, Bool.true_eq_false, Bool.false_eq_true] at hc | skip))
      | (refine aw_if rfl ?_ ?_ <;> intro hc <;> (first | replace hc := of_decide_eq_true hc | replace hc := of_decide_eq_false hc | replace hc := eq_of_beq hc | simp only [Bool.not_eq_true', Bool.not_eq_false', Bool.and_eq_true, Bool.or_eq_true, Bool.or_eq_false_iff, Bool.not_true, Bool.not_false, decide_eq_true_eq, decide_eq_false_iff_not, Bool.and_eq_false_imp, bne_iff_ne, ne_eq, beq_iff_eq, beq_eq_false_iff_ne, bne_eq_false_iff_eq, bne_self_eq_false, not_true_eq_false, eq_self, Bool.true_eq_false, Bool.false_eq_true] at hc | skip))
      | refine s_index1n tabOk rfl rfl rfl rfl (by omega) ?_
      | refine s_indexn tabOk rfl rfl rfl rfl (by omega) ?_
      | refine s_index1 tabOk rfl rfl rfl rfl (by omega) (by omega) ?_
      | refine sh_load tabOk (by assumption) rfl rfl rfl rfl (by repeat (first | exact List.Mem.head _ | apply List.Mem.tail)) (by rfl) (by rfl) ?_
      | refine sh_loada tabOk (by assumption) rfl rfl rfl rfl (by repeat (first | exact List.Mem.head _ | apply List.Mem.tail)) (by rfl) ?_
      | (refine sh_box (by assumption) rfl rfl rfl rfl rfl rfl ?_; intro _ _ _)
      | (refine sh_alloc tabOk (by assumption) rfl rfl rfl rfl rfl rfl ?_; intro _ _ _)
      | (refine sh_store tabOk (by assumption) rfl rfl rfl rfl rfl rfl (by repeat (first | exact Upd.here | apply Upd.there)) (by rfl) ?_; intro _ _)
      | (refine sh_lit tabOk (by assumption) rfl rfl rfl rfl rfl rfl rfl rfl rfl rfl rfl ?_; intro _ _ _)
      | refine sh_build tabOk rfl rfl rfl rfl rfl rfl ?_
      | refine rndh_ret ?_
      | refine rndh_exit ?_)
    · refine sh_push tabOk (by assumption) rfl rfl rfl rfl rfl rfl rfl rfl (fun _ _ => (by repeat (first | exact Upd.here | apply Upd.there))) (by omega) ?_
      intro a7 c7 W7 H7
      rw [← joinTo_lo (by omega) hc] at H7
      repeat' (first
      | refine s_pure tabOk rfl rfl rfl rfl ?_
      | refine aops_nil ?_
      | refine thn_normal ?_
      | refine aw_seq ?_
      | refine aw_reg ?_
      | refine s_pass rfl rfl rfl ?_
      | refine s_len tabOk rfl rfl rfl rfl ?_
      | refine aw_true rfl ?_
      | refine aw_false rfl ?_
      | refine aw_block ?_
      | refine aw_skip ?_
      | refine aw_exit ?_
      | refine blk_exit ?_
      | refine blk_exit_other rfl ?_
      | refine blk_normal ?_
      | refine thn_exit ?_
      | refine thn_ret ?_
      | refine blk_ret ?_
      | refine rnd_ret ?_
      | refine rnd_exit ?_
      | refine aw_ret ?_
      | refine s_arith tabOk rfl rfl rfl rfl (by simp only [InR]; omega) ?_
      | ((fail_if_success refine s_told rfl rfl ?_); refine s_part rfl rfl rfl ?_ ?_ <;> intro hc <;> (first | replace hc := of_decide_eq_true hc | replace hc := of_decide_eq_false hc | replace hc := eq_of_beq hc | simp only [Bool.not_eq_true', Bool.not_eq_false', Bool.and_eq_true, Bool.or_eq_true, Bool.or_eq_false_iff, Bool.not_true, Bool.not_false, decide_eq_true_eq, decide_eq_false_iff_not, Bool.and_eq_false_imp, bne_iff_ne, ne_eq, beq_iff_eq, beq_eq_false_iff_ne, bne_eq_false_iff_eq, bne_self_eq_false, not_true_eq_false, eq_self, Bool.true_eq_false, Bool.false_eq_true] at hc | skip))
      | (refine aw_if rfl ?_ ?_ <;> intro hc <;> (first | replace hc := of_decide_eq_true hc | replace hc := of_decide_eq_false hc | replace hc := eq_of_beq hc | simp only [Bool.not_eq_true', Bool.not_eq_false', Bool.and_eq_true, Bool.or_eq_true, Bool.or_eq_false_iff, Bool.not_true, Bool.not_false, decide_eq_true_eq, decide_eq_false_iff_not, Bool.and_eq_false_imp, bne_iff_ne, ne_eq, beq_iff_eq, beq_eq_false_iff_ne, bne_eq_false_iff_eq, bne_self_eq_false, not_true_eq_false, eq_self, Bool.true_eq_false, Bool.false_eq_true] at hc | skip))
      | refine s_index1n tabOk rfl rfl rfl rfl (by omega) ?_
      | refine s_indexn tabOk rfl rfl rfl rfl (by omega) ?_
      | refine s_index1 tabOk rfl rfl rfl rfl (by omega) (by omega) ?_
      | refine sh_load tabOk (by assumption) rfl rfl rfl rfl (by repeat (first | exact List.Mem.head _ | apply List.Mem.tail)) (by rfl) (by rfl) ?_
      | refine sh_loada tabOk (by assumption) rfl rfl rfl rfl (by repeat (first | exact List.Mem.head _ | apply List.Mem.tail)) (by rfl) ?_
      | (refine sh_box (by assumption) rfl rfl rfl rfl rfl rfl ?_; intro _ _ _)
      | (refine sh_alloc tabOk (by assumption) rfl rfl rfl rfl rfl rfl ?_; intro _ _ _)
      | (refine sh_store tabOk (by assumption) rfl rfl rfl rfl rfl rfl (by repeat (first | exact Upd.here | apply Upd.there)) (by rfl) ?_; intro _ _)
      | (refine sh_lit tabOk (by assumption) rfl rfl rfl rfl rfl rfl rfl rfl rfl rfl rfl ?_; intro _ _ _)
      | refine sh_build tabOk rfl rfl rfl rfl rfl rfl ?_
      | refine rndh_ret ?_
      | refine rndh_exit ?_)
      exact rndh_next (i + 1, a7, c7) (by dsimp only; omega) (by dsimp only; omega) (by dsimp only; exact (by repeat (first | exact less_nil | refine less_cons rfl ?_))) (Hp.picks (by assumption) (by repeat (first | exact Picks.nil | (apply Picks.cons; (repeat (first | exact Pick.here | apply Pick.there))))))
    · have hb := rvOk_ds e4 (i := i) (by omega)
      repeat' (first
      | refine s_pure tabOk rfl rfl rfl rfl ?_
      | refine aops_nil ?_
      | refine thn_normal ?_
      | refine aw_seq ?_
      | refine aw_reg ?_
      | refine s_pass rfl rfl rfl ?_
      | refine s_len tabOk rfl rfl rfl rfl ?_
      | refine aw_true rfl ?_
      | refine aw_false rfl ?_
      | refine aw_block ?_
      | refine aw_skip ?_
      | refine aw_exit ?_
      | refine blk_exit ?_
      | refine blk_exit_other rfl ?_
      | refine blk_normal ?_
      | refine thn_exit ?_
      | refine thn_ret ?_
      | refine blk_ret ?_
      | refine rnd_ret ?_
      | refine rnd_exit ?_
      | refine aw_ret ?_
      | refine s_arith tabOk rfl rfl rfl rfl (by simp only [InR]; omega) ?_
      | ((fail_if_success refine s_told rfl rfl ?_); refine s_part rfl rfl rfl ?_ ?_ <;> intro hc <;> (first | replace hc := of_decide_eq_true hc | replace hc := of_decide_eq_false hc | replace hc := eq_of_beq hc | simp only [Bool.not_eq_true', Bool.not_eq_false', Bool.and_eq_true, Bool.or_eq_true, Bool.or_eq_false_iff, Bool.not_true, Bool.not_false, decide_eq_true_eq, decide_eq_false_iff_not, Bool.and_eq_false_imp, bne_iff_ne, ne_eq, beq_iff_eq, beq_eq_false_iff_ne, bne_eq_false_iff_eq, bne_self_eq_false, not_true_eq_false, eq_self, Bool.true_eq_false, Bool.false_eq_true] at hc | skip))
      | (refine aw_if rfl ?_ ?_ <;> intro hc <;> (first | replace hc := of_decide_eq_true hc | replace hc := of_decide_eq_false hc | replace hc := eq_of_beq hc | simp only [Bool.not_eq_true', Bool.not_eq_false', Bool.and_eq_true, Bool.or_eq_true, Bool.or_eq_false_iff, Bool.not_true, Bool.not_false, decide_eq_true_eq, decide_eq_false_iff_not, Bool.and_eq_false_imp, bne_iff_ne, ne_eq, beq_iff_eq, beq_eq_false_iff_ne, bne_eq_false_iff_eq, bne_self_eq_false, not_true_eq_false, eq_self, Bool.true_eq_false, Bool.false_eq_true] at hc | skip))
      | refine s_index1n tabOk rfl rfl rfl rfl (by omega) ?_
      | refine s_indexn tabOk rfl rfl rfl rfl (by omega) ?_
      | refine s_index1 tabOk rfl rfl rfl rfl (by omega) (by omega) ?_
      | refine sh_load tabOk (by assumption) rfl rfl rfl rfl (by repeat (first | exact List.Mem.head _ | apply List.Mem.tail)) (by rfl) (by rfl) ?_
      | refine sh_loada tabOk (by assumption) rfl rfl rfl rfl (by repeat (first | exact List.Mem.head _ | apply List.Mem.tail)) (by rfl) ?_
      | (refine sh_box (by assumption) rfl rfl rfl rfl rfl rfl ?_; intro _ _ _)
      | (refine sh_alloc tabOk (by assumption) rfl rfl rfl rfl rfl rfl ?_; intro _ _ _)
      | (refine sh_store tabOk (by assumption) rfl rfl rfl rfl rfl rfl (by repeat (first | exact Upd.here | apply Upd.there)) (by rfl) ?_; intro _ _)
      | (refine sh_lit tabOk (by assumption) rfl rfl rfl rfl rfl rfl rfl rfl rfl rfl rfl ?_; intro _ _ _)
      | refine sh_build tabOk rfl rfl rfl rfl rfl rfl ?_
      | refine rndh_ret ?_
      | refine rndh_exit ?_)
      refine sh_push tabOk (by assumption) rfl rfl rfl rfl rfl rfl rfl rfl (fun _ _ => (by repeat (first | exact Upd.here | apply Upd.there))) (by omega) ?_
      intro a7 c7 W7 H7
      rw [← joinTo_hi (by omega) hc] at H7
      repeat' (first
      | refine s_pure tabOk rfl rfl rfl rfl ?_
      | refine aops_nil ?_
      | refine thn_normal ?_
      | refine aw_seq ?_
      | refine aw_reg ?_
      | refine s_pass rfl rfl rfl ?_
      | refine s_len tabOk rfl rfl rfl rfl ?_
      | refine aw_true rfl ?_
      | refine aw_false rfl ?_
      | refine aw_block ?_
      | refine aw_skip ?_
      | refine aw_exit ?_
      | refine blk_exit ?_
      | refine blk_exit_other rfl ?_
      | refine blk_normal ?_
      | refine thn_exit ?_
      | refine thn_ret ?_
      | refine blk_ret ?_
      | refine rnd_ret ?_
      | refine rnd_exit ?_
      | refine aw_ret ?_
      | refine s_arith tabOk rfl rfl rfl rfl (by simp only [InR]; omega) ?_
      | ((fail_if_success refine s_told rfl rfl ?_); refine s_part rfl rfl rfl ?_ ?_ <;> intro hc <;> (first | replace hc := of_decide_eq_true hc | replace hc := of_decide_eq_false hc | replace hc := eq_of_beq hc | simp only [Bool.not_eq_true', Bool.not_eq_false', Bool.and_eq_true, Bool.or_eq_true, Bool.or_eq_false_iff, Bool.not_true, Bool.not_false, decide_eq_true_eq, decide_eq_false_iff_not, Bool.and_eq_false_imp, bne_iff_ne, ne_eq, beq_iff_eq, beq_eq_false_iff_ne, bne_eq_false_iff_eq, bne_self_eq_false, not_true_eq_false, eq_self, Bool.true_eq_false, Bool.false_eq_true] at hc | skip))
      | (refine aw_if rfl ?_ ?_ <;> intro hc <;> (first | replace hc := of_decide_eq_true hc | replace hc := of_decide_eq_false hc | replace hc := eq_of_beq hc | simp only [Bool.not_eq_true', Bool.not_eq_false', Bool.and_eq_true, Bool.or_eq_true, Bool.or_eq_false_iff, Bool.not_true, Bool.not_false, decide_eq_true_eq, decide_eq_false_iff_not, Bool.and_eq_false_imp, bne_iff_ne, ne_eq, beq_iff_eq, beq_eq_false_iff_ne, bne_eq_false_iff_eq, bne_self_eq_false, not_true_eq_false, eq_self, Bool.true_eq_false, Bool.false_eq_true] at hc | skip))
      | refine s_index1n tabOk rfl rfl rfl rfl (by omega) ?_
      | refine s_indexn tabOk rfl rfl rfl rfl (by omega) ?_
      | refine s_index1 tabOk rfl rfl rfl rfl (by omega) (by omega) ?_
      | refine sh_load tabOk (by assumption) rfl rfl rfl rfl (by repeat (first | exact List.Mem.head _ | apply List.Mem.tail)) (by rfl) (by rfl) ?_
      | refine sh_loada tabOk (by assumption) rfl rfl rfl rfl (by repeat (first | exact List.Mem.head _ | apply List.Mem.tail)) (by rfl) ?_
      | (refine sh_box (by assumption) rfl rfl rfl rfl rfl rfl ?_; intro _ _ _)
      | (refine sh_alloc tabOk (by assumption) rfl rfl rfl rfl rfl rfl ?_; intro _ _ _)
      | (refine sh_store tabOk (by assumption) rfl rfl rfl rfl rfl rfl (by repeat (first | exact Upd.here | apply Upd.there)) (by rfl) ?_; intro _ _)
      | (refine sh_lit tabOk (by assumption) rfl rfl rfl rfl rfl rfl rfl rfl rfl rfl rfl ?_; intro _ _ _)
      | refine sh_build tabOk rfl rfl rfl rfl rfl rfl ?_
      | refine rndh_ret ?_
      | refine rndh_exit ?_)
      exact rndh_next (i + 1, a7, c7) (by dsimp only; omega) (by dsimp only; omega) (by dsimp only; exact (by repeat (first | exact less_nil | refine less_cons rfl ?_))) (Hp.picks (by assumption) (by repeat (first | exact Picks.nil | (apply Picks.cons; (repeat (first | exact Pick.here | apply Pick.there))))))
  have hil : i = s.ds.length := by omega
  subst hil
  have hlen := joinTo_len (r := r) (s := s) (q := q) (Nat.le_refl _)
  have el1 : r.ds.length + s.ds.length = (joinR r s q).ds.length := hlen.symm
  have el2 : r.dm.length + s.dm.length = (joinR r s q).dm.length := by simp [joinR]
  have el3 : r.ws.length + s.ws.length = (joinR r s q).ws.length := by simp [joinR]
  have hsm : (joinR r s q).small := ⟨by omega, by omega, by omega⟩
  rw [el1] at H6
  have hs2 : ∀ {W' : World} {L' : List Res}, Hp B W W' L' → SlV W' 4 (.slice p5 s.dm.length k5) s.dm.length (dCs s.dm) := fun H => Hp.sldA H hv'.m
  have hs3 : ∀ {W' : World} {L' : List Res}, Hp B W W' L' → SlV W' 1 (.slice p6 s.ws.length k6) s.ws.length (iC s.ws) := fun H => H.sliA hv'.w
  refine aw_told followsMixed (DH B W [.blk b2 (rvC (some ⟨bs, os, none⟩) k4 p5 k5 p6 k6 s) 29]) [0, 2, 3, 5, 7, 8, 1, 6, 4, 9, 10, 11, 12, 13] (by kernel_rfl) (H6.picks (by repeat (first | exact Picks.nil | (apply Picks.cons; (repeat (first | exact Pick.here | apply Pick.there)))))) ?_
  repeat (first
      | refine so_pure tabOk (by first | exact lax_thn | exact lax_blk lax_thn | exact lax_rnd | exact lax_blk lax_rnd | exact lax_rndh | exact lax_blk lax_rndh | exact lax_mid) rfl rfl rfl rfl (by kernel_rfl) ?_
      | refine so_load' tabOk (by first | exact lax_thn | exact lax_blk lax_thn | exact lax_rnd | exact lax_blk lax_rnd | exact lax_rndh | exact lax_blk lax_rndh | exact lax_mid) rfl rfl rfl rfl (by repeat (first | exact List.Mem.head _ | apply List.Mem.tail)) (by rfl) (by rfl) (by kernel_rfl) ?_
      | refine so_loada' tabOk (by first | exact lax_thn | exact lax_blk lax_thn | exact lax_rnd | exact lax_blk lax_rnd | exact lax_rndh | exact lax_blk lax_rndh | exact lax_mid) rfl rfl rfl rfl (by repeat (first | exact List.Mem.head _ | apply List.Mem.tail)) (by rfl) (by kernel_rfl) ?_
      | refine so_len tabOk (by first | exact lax_thn | exact lax_blk lax_thn | exact lax_rnd | exact lax_blk lax_rnd | exact lax_rndh | exact lax_blk lax_rndh | exact lax_mid) rfl rfl rfl rfl (by kernel_rfl) ?_
      | refine so_build' tabOk (by first | exact lax_thn | exact lax_blk lax_thn | exact lax_rnd | exact lax_blk lax_rnd | exact lax_rndh | exact lax_blk lax_rndh | exact lax_mid) rfl rfl rfl rfl rfl rfl (by kernel_rfl) ?_
      | refine so_index1n tabOk (by first | exact lax_thn | exact lax_blk lax_thn | exact lax_rnd | exact lax_blk lax_rnd | exact lax_rndh | exact lax_blk lax_rndh | exact lax_mid) rfl rfl rfl rfl (by omega) (by kernel_rfl) ?_
      | refine so_indexn tabOk (by first | exact lax_thn | exact lax_blk lax_thn | exact lax_rnd | exact lax_blk lax_rnd | exact lax_rndh | exact lax_blk lax_rndh | exact lax_mid) rfl rfl rfl rfl (by omega) (by kernel_rfl) ?_
      | refine so_index1 tabOk (by first | exact lax_thn | exact lax_blk lax_thn | exact lax_rnd | exact lax_blk lax_rnd | exact lax_rndh | exact lax_blk lax_rndh | exact lax_mid) rfl rfl rfl rfl (by omega) (by omega) (by kernel_rfl) ?_
      | refine so_pass (by first | exact lax_thn | exact lax_blk lax_thn | exact lax_rnd | exact lax_blk lax_rnd | exact lax_rndh | exact lax_blk lax_rndh | exact lax_mid) rfl rfl rfl (by kernel_rfl) ?_
      | refine so_arith tabOk (by first | exact lax_thn | exact lax_blk lax_thn | exact lax_rnd | exact lax_blk lax_rnd | exact lax_rndh | exact lax_blk lax_rndh | exact lax_mid) rfl rfl rfl rfl (by simp only [InR]; omega) (by kernel_rfl) ?_)
  refine so_all [1, 6] (by kernel_rfl) (x_one ?_ (x_one ?_ x_none))
  · refine th_load tabOk (by assumption) [4, 6, 9, 10, 11, 12, 13] (by kernel_rfl) rfl rfl rfl rfl (by repeat (first | exact List.Mem.head _ | apply List.Mem.tail)) (by rfl) (by rfl) (by repeat (first | exact List.nil_sublist _ | refine List.Sublist.cons_cons _ ?_ | refine List.Sublist.cons _ ?_)) ?_
    refine so_all [4, 6] (by kernel_rfl) (x_one ?_ (x_one ?_ x_none))
    · refine th_append tabOk (by assumption) [6, 9, 10, 11, 12, 13] (by kernel_rfl) rfl rfl rfl rfl rfl rfl rfl rfl rfl (fun _ _ => (by repeat (first | exact Upd.here | apply Upd.there))) (hs2 (by assumption)) (by omega) (fun _ _ => (by repeat (first | exact List.nil_sublist _ | refine List.Sublist.cons_cons _ ?_ | refine List.Sublist.cons _ ?_))) ?_
      intro ad4 cp4 W4 H4
      rw [← List.flatMap_append, el2] at H4
      rw [el2]
      refine so_single (by kernel_rfl) (th_load tabOk (by assumption) [10, 9, 11, 12, 13] (by kernel_rfl) rfl rfl rfl rfl (by repeat (first | exact List.Mem.head _ | apply List.Mem.tail)) (by rfl) (by rfl) (by repeat (first | exact List.nil_sublist _ | refine List.Sublist.cons_cons _ ?_ | refine List.Sublist.cons _ ?_)) ?_)
      repeat (first
      | refine so_pure tabOk (by first | exact lax_thn | exact lax_blk lax_thn | exact lax_rnd | exact lax_blk lax_rnd | exact lax_rndh | exact lax_blk lax_rndh | exact lax_mid) rfl rfl rfl rfl (by kernel_rfl) ?_
      | refine so_load' tabOk (by first | exact lax_thn | exact lax_blk lax_thn | exact lax_rnd | exact lax_blk lax_rnd | exact lax_rndh | exact lax_blk lax_rndh | exact lax_mid) rfl rfl rfl rfl (by repeat (first | exact List.Mem.head _ | apply List.Mem.tail)) (by rfl) (by rfl) (by kernel_rfl) ?_
      | refine so_loada' tabOk (by first | exact lax_thn | exact lax_blk lax_thn | exact lax_rnd | exact lax_blk lax_rnd | exact lax_rndh | exact lax_blk lax_rndh | exact lax_mid) rfl rfl rfl rfl (by repeat (first | exact List.Mem.head _ | apply List.Mem.tail)) (by rfl) (by kernel_rfl) ?_
      | refine so_len tabOk (by first | exact lax_thn | exact lax_blk lax_thn | exact lax_rnd | exact lax_blk lax_rnd | exact lax_rndh | exact lax_blk lax_rndh | exact lax_mid) rfl rfl rfl rfl (by kernel_rfl) ?_
      | refine so_build' tabOk (by first | exact lax_thn | exact lax_blk lax_thn | exact lax_rnd | exact lax_blk lax_rnd | exact lax_rndh | exact lax_blk lax_rndh | exact lax_mid) rfl rfl rfl rfl rfl rfl (by kernel_rfl) ?_
      | refine so_index1n tabOk (by first | exact lax_thn | exact lax_blk lax_thn | exact lax_rnd | exact lax_blk lax_rnd | exact lax_rndh | exact lax_blk lax_rndh | exact lax_mid) rfl rfl rfl rfl (by omega) (by kernel_rfl) ?_
      | refine so_indexn tabOk (by first | exact lax_thn | exact lax_blk lax_thn | exact lax_rnd | exact lax_blk lax_rnd | exact lax_rndh | exact lax_blk lax_rndh | exact lax_mid) rfl rfl rfl rfl (by omega) (by kernel_rfl) ?_
      | refine so_index1 tabOk (by first | exact lax_thn | exact lax_blk lax_thn | exact lax_rnd | exact lax_blk lax_rnd | exact lax_rndh | exact lax_blk lax_rndh | exact lax_mid) rfl rfl rfl rfl (by omega) (by omega) (by kernel_rfl) ?_
      | refine so_pass (by first | exact lax_thn | exact lax_blk lax_thn | exact lax_rnd | exact lax_blk lax_rnd | exact lax_rndh | exact lax_blk lax_rndh | exact lax_mid) rfl rfl rfl (by kernel_rfl) ?_
      | refine so_arith tabOk (by first | exact lax_thn | exact lax_blk lax_thn | exact lax_rnd | exact lax_blk lax_rnd | exact lax_rndh | exact lax_blk lax_rndh | exact lax_mid) rfl rfl rfl rfl (by simp only [InR]; omega) (by kernel_rfl) ?_)
      refine so_single (by kernel_rfl) (th_append tabOk (by assumption) [11, 12, 13] (by kernel_rfl) rfl rfl rfl rfl rfl rfl rfl rfl rfl (fun _ _ => (by repeat (first | exact Upd.here | apply Upd.there))) (hs3 (by assumption)) (by omega) (fun _ _ => (by repeat (first | exact List.nil_sublist _ | refine List.Sublist.cons_cons _ ?_ | refine List.Sublist.cons _ ?_))) ?_)
      intro ad9 cp9 W9 H9
      rw [← List.map_append, el3] at H9
      rw [el3]
      refine so_single (by kernel_rfl) (th_store tabOk (by assumption) (by simp [cv, Cn.c1, cl]) [12, 13] (by kernel_rfl) rfl rfl rfl rfl rfl rfl (by repeat (first | exact Upd.here | apply Upd.there)) (by rfl) (by repeat (first | exact List.nil_sublist _ | refine List.Sublist.cons_cons _ ?_ | refine List.Sublist.cons _ ?_)) ?_)
      intro W11 H11
      repeat (first
      | refine so_pure tabOk (by first | exact lax_thn | exact lax_blk lax_thn | exact lax_rnd | exact lax_blk lax_rnd | exact lax_rndh | exact lax_blk lax_rndh | exact lax_mid) rfl rfl rfl rfl (by kernel_rfl) ?_
      | refine so_load' tabOk (by first | exact lax_thn | exact lax_blk lax_thn | exact lax_rnd | exact lax_blk lax_rnd | exact lax_rndh | exact lax_blk lax_rndh | exact lax_mid) rfl rfl rfl rfl (by repeat (first | exact List.Mem.head _ | apply List.Mem.tail)) (by rfl) (by rfl) (by kernel_rfl) ?_
      | refine so_loada' tabOk (by first | exact lax_thn | exact lax_blk lax_thn | exact lax_rnd | exact lax_blk lax_rnd | exact lax_rndh | exact lax_blk lax_rndh | exact lax_mid) rfl rfl rfl rfl (by repeat (first | exact List.Mem.head _ | apply List.Mem.tail)) (by rfl) (by kernel_rfl) ?_
      | refine so_len tabOk (by first | exact lax_thn | exact lax_blk lax_thn | exact lax_rnd | exact lax_blk lax_rnd | exact lax_rndh | exact lax_blk lax_rndh | exact lax_mid) rfl rfl rfl rfl (by kernel_rfl) ?_
      | refine so_build' tabOk (by first | exact lax_thn | exact lax_blk lax_thn | exact lax_rnd | exact lax_blk lax_rnd | exact lax_rndh | exact lax_blk lax_rndh | exact lax_mid) rfl rfl rfl rfl rfl rfl (by kernel_rfl) ?_
      | refine so_index1n tabOk (by first | exact lax_thn | exact lax_blk lax_thn | exact lax_rnd | exact lax_blk lax_rnd | exact lax_rndh | exact lax_blk lax_rndh | exact lax_mid) rfl rfl rfl rfl (by omega) (by kernel_rfl) ?_
      | refine so_indexn tabOk (by first | exact lax_thn | exact lax_blk lax_thn | exact lax_rnd | exact lax_blk lax_rnd | exact lax_rndh | exact lax_blk lax_rndh | exact lax_mid) rfl rfl rfl rfl (by omega) (by kernel_rfl) ?_
      | refine so_index1 tabOk (by first | exact lax_thn | exact lax_blk lax_thn | exact lax_rnd | exact lax_blk lax_rnd | exact lax_rndh | exact lax_blk lax_rndh | exact lax_mid) rfl rfl rfl rfl (by omega) (by omega) (by kernel_rfl) ?_
      | refine so_pass (by first | exact lax_thn | exact lax_blk lax_thn | exact lax_rnd | exact lax_blk lax_rnd | exact lax_rndh | exact lax_blk lax_rndh | exact lax_mid) rfl rfl rfl (by kernel_rfl) ?_
      | refine so_arith tabOk (by first | exact lax_thn | exact lax_blk lax_thn | exact lax_rnd | exact lax_blk lax_rnd | exact lax_rndh | exact lax_blk lax_rndh | exact lax_mid) rfl rfl rfl rfl (by simp only [InR]; omega) (by kernel_rfl) ?_)
      refine so_single (by kernel_rfl) (th_store tabOk (by assumption) (by simp [cv, Cn.c1, cl]) [] (by kernel_rfl) rfl rfl rfl rfl rfl rfl (by repeat (first | exact Upd.here | apply Upd.there)) (by rfl) (by repeat (first | exact List.nil_sublist _ | refine List.Sublist.cons_cons _ ?_ | refine List.Sublist.cons _ ?_)) ?_)
      intro W13 H13
      refine so_done ?_
      repeat' (first
      | refine s_pure tabOk rfl rfl rfl rfl ?_
      | refine aops_nil ?_
      | refine thn_normal ?_
      | refine aw_seq ?_
      | refine aw_reg ?_
      | refine s_pass rfl rfl rfl ?_
      | refine s_len tabOk rfl rfl rfl rfl ?_
      | refine aw_true rfl ?_
      | refine aw_false rfl ?_
      | refine aw_block ?_
      | refine aw_skip ?_
      | refine aw_exit ?_
      | refine blk_exit ?_
      | refine blk_exit_other rfl ?_
      | refine blk_normal ?_
      | refine thn_exit ?_
      | refine thn_ret ?_
      | refine blk_ret ?_
      | refine rnd_ret ?_
      | refine rnd_exit ?_
      | refine aw_ret ?_
      | refine s_arith tabOk rfl rfl rfl rfl (by simp only [InR]; omega) ?_
      | ((fail_if_success refine s_told rfl rfl ?_); refine s_part rfl rfl rfl ?_ ?_ <;> intro hc <;> (first | replace hc := of_decide_eq_true hc | replace hc := of_decide_eq_false hc | replace hc := eq_of_beq hc | simp only [Bool.not_eq_true', Bool.not_eq_false', Bool.and_eq_true, Bool.or_eq_true, Bool.or_eq_false_iff, Bool.not_true, Bool.not_false, decide_eq_true_eq, decide_eq_false_iff_not, Bool.and_eq_false_imp, bne_iff_ne, ne_eq, beq_iff_eq, beq_eq_false_iff_ne, bne_eq_false_iff_eq, bne_self_eq_false, not_true_eq_false, eq_self, Bool.true_eq_false, Bool.false_eq_true] at hc | skip))
      | (refine aw_if rfl ?_ ?_ <;> intro hc <;> (first | replace hc := of_decide_eq_true hc | replace hc := of_decide_eq_false hc | replace hc := eq_of_beq hc | simp only [Bool.not_eq_true', Bool.not_eq_false', Bool.and_eq_true, Bool.or_eq_true, Bool.or_eq_false_iff, Bool.not_true, Bool.not_false, decide_eq_true_eq, decide_eq_false_iff_not, Bool.and_eq_false_imp, bne_iff_ne, ne_eq, beq_iff_eq, beq_eq_false_iff_ne, bne_eq_false_iff_eq, bne_self_eq_false, not_true_eq_false, eq_self, Bool.true_eq_false, Bool.false_eq_true] at hc | skip))
      | refine s_index1n tabOk rfl rfl rfl rfl (by omega) ?_
      | refine s_indexn tabOk rfl rfl rfl rfl (by omega) ?_
      | refine s_index1 tabOk rfl rfl rfl rfl (by omega) (by omega) ?_
      | refine sh_load tabOk (by assumption) rfl rfl rfl rfl (by repeat (first | exact List.Mem.head _ | apply List.Mem.tail)) (by rfl) (by rfl) ?_
      | refine sh_loada tabOk (by assumption) rfl rfl rfl rfl (by repeat (first | exact List.Mem.head _ | apply List.Mem.tail)) (by rfl) ?_
      | (refine sh_box (by assumption) rfl rfl rfl rfl rfl rfl ?_; intro _ _ _)
      | (refine sh_alloc tabOk (by assumption) rfl rfl rfl rfl rfl rfl ?_; intro _ _ _)
      | (refine sh_store tabOk (by assumption) rfl rfl rfl rfl rfl rfl (by repeat (first | exact Upd.here | apply Upd.there)) (by rfl) ?_; intro _ _)
      | (refine sh_lit tabOk (by assumption) rfl rfl rfl rfl rfl rfl rfl rfl rfl rfl rfl ?_; intro _ _ _)
      | refine sh_build tabOk rfl rfl rfl rfl rfl rfl ?_
      | refine rndh_ret ?_
      | refine rndh_exit ?_)
      refine s_call rfl rfl rfl rfl ent66 (c_impl_toldRiver (r := joinR r s q) (Hp.size (by assumption)) (Hp.rv (by assumption) (by repeat (first | exact List.Mem.head _ | apply List.Mem.tail)) (by repeat (first | exact List.Mem.head _ | apply List.Mem.tail)) (by repeat (first | exact List.Mem.head _ | apply List.Mem.tail))) hsm) ?_
      rintro _ W20 ⟨rfl, g20⟩
      have H20 := Hp.call0 (by assumption) g20
      cases hj : rvOk (joinR r s q)
      · simp only [hj, Bool.false_eq_true, if_false]
        repeat' (first
      | refine s_pure tabOk rfl rfl rfl rfl ?_
      | refine aops_nil ?_
      | refine thn_normal ?_
      | refine aw_seq ?_
      | refine aw_reg ?_
      | refine s_pass rfl rfl rfl ?_
      | refine s_len tabOk rfl rfl rfl rfl ?_
      | refine aw_true rfl ?_
      | refine aw_false rfl ?_
      | refine aw_block ?_
      | refine aw_skip ?_
      | refine aw_exit ?_
      | refine blk_exit ?_
      | refine blk_exit_other rfl ?_
      | refine blk_normal ?_
      | refine thn_exit ?_
      | refine thn_ret ?_
      | refine blk_ret ?_
      | refine rnd_ret ?_
      | refine rnd_exit ?_
      | refine aw_ret ?_
      | refine s_arith tabOk rfl rfl rfl rfl (by simp only [InR]; omega) ?_
      | ((fail_if_success refine s_told rfl rfl ?_); refine s_part rfl rfl rfl ?_ ?_ <;> intro hc <;> (first | replace hc := of_decide_eq_true hc | replace hc := of_decide_eq_false hc | replace hc := eq_of_beq hc | simp only [Bool.not_eq_true', Bool.not_eq_false', Bool.and_eq_true, Bool.or_eq_true, Bool.or_eq_false_iff, Bool.not_true, Bool.not_false, decide_eq_true_eq, decide_eq_false_iff_not, Bool.and_eq_false_imp, bne_iff_ne, ne_eq, beq_iff_eq, beq_eq_false_iff_ne, bne_eq_false_iff_eq, bne_self_eq_false, not_true_eq_false, eq_self, Bool.true_eq_false, Bool.false_eq_true] at hc | skip))
      | (refine aw_if rfl ?_ ?_ <;> intro hc <;> (first | replace hc := of_decide_eq_true hc | replace hc := of_decide_eq_false hc | replace hc := eq_of_beq hc | simp only [Bool.not_eq_true', Bool.not_eq_false', Bool.and_eq_true, Bool.or_eq_true, Bool.or_eq_false_iff, Bool.not_true, Bool.not_false, decide_eq_true_eq, decide_eq_false_iff_not, Bool.and_eq_false_imp, bne_iff_ne, ne_eq, beq_iff_eq, beq_eq_false_iff_ne, bne_eq_false_iff_eq, bne_self_eq_false, not_true_eq_false, eq_self, Bool.true_eq_false, Bool.false_eq_true] at hc | skip))
      | refine s_index1n tabOk rfl rfl rfl rfl (by omega) ?_
      | refine s_indexn tabOk rfl rfl rfl rfl (by omega) ?_
      | refine s_index1 tabOk rfl rfl rfl rfl (by omega) (by omega) ?_
      | refine sh_load tabOk (by assumption) rfl rfl rfl rfl (by repeat (first | exact List.Mem.head _ | apply List.Mem.tail)) (by rfl) (by rfl) ?_
      | refine sh_loada tabOk (by assumption) rfl rfl rfl rfl (by repeat (first | exact List.Mem.head _ | apply List.Mem.tail)) (by rfl) ?_
      | (refine sh_box (by assumption) rfl rfl rfl rfl rfl rfl ?_; intro _ _ _)
      | (refine sh_alloc tabOk (by assumption) rfl rfl rfl rfl rfl rfl ?_; intro _ _ _)
      | (refine sh_store tabOk (by assumption) rfl rfl rfl rfl rfl rfl (by repeat (first | exact Upd.here | apply Upd.there)) (by rfl) ?_; intro _ _)
      | (refine sh_lit tabOk (by assumption) rfl rfl rfl rfl rfl rfl rfl rfl rfl rfl rfl ?_; intro _ _ _)
      | refine sh_build tabOk rfl rfl rfl rfl rfl rfl ?_
      | refine rndh_ret ?_
      | refine rndh_exit ?_)
        refine retK_ret tabOk (congrArg Array.toList Try.results14) (by repeat (first | exact rv_nil | apply rv_tmp rfl rfl | apply rv_cellH (by assumption) rfl rfl rfl (by repeat (first | exact List.Mem.head _ | apply List.Mem.tail)) rfl)) ?_
        exact JoinH.bad (by simp [joinOk, hj]) (Hp.sub (by assumption) (by repeat (first | exact List.nil_sublist _ | refine List.Sublist.cons_cons _ ?_ | refine List.Sublist.cons _ ?_)))
      · simp only [hj, if_true]
        repeat' (first
      | refine s_pure tabOk rfl rfl rfl rfl ?_
      | refine aops_nil ?_
      | refine thn_normal ?_
      | refine aw_seq ?_
      | refine aw_reg ?_
      | refine s_pass rfl rfl rfl ?_
      | refine s_len tabOk rfl rfl rfl rfl ?_
      | refine aw_true rfl ?_
      | refine aw_false rfl ?_
      | refine aw_block ?_
      | refine aw_skip ?_
      | refine aw_exit ?_
      | refine blk_exit ?_
      | refine blk_exit_other rfl ?_
      | refine blk_normal ?_
      | refine thn_exit ?_
      | refine thn_ret ?_
      | refine blk_ret ?_
      | refine rnd_ret ?_
      | refine rnd_exit ?_
      | refine aw_ret ?_
      | refine s_arith tabOk rfl rfl rfl rfl (by simp only [InR]; omega) ?_
      | ((fail_if_success refine s_told rfl rfl ?_); refine s_part rfl rfl rfl ?_ ?_ <;> intro hc <;> (first | replace hc := of_decide_eq_true hc | replace hc := of_decide_eq_false hc | replace hc := eq_of_beq hc | simp only [Bool.not_eq_true', Bool.not_eq_false', Bool.and_eq_true, Bool.or_eq_true, Bool.or_eq_false_iff, Bool.not_true, Bool.not_false, decide_eq_true_eq, decide_eq_false_iff_not, Bool.and_eq_false_imp, bne_iff_ne, ne_eq, beq_iff_eq, beq_eq_false_iff_ne, bne_eq_false_iff_eq, bne_self_eq_false, not_true_eq_false, eq_self, Bool.true_eq_false, Bool.false_eq_true] at hc | skip))
      | (refine aw_if rfl ?_ ?_ <;> intro hc <;> (first | replace hc := of_decide_eq_true hc | replace hc := of_decide_eq_false hc | replace hc := eq_of_beq hc | simp only [Bool.not_eq_true', Bool.not_eq_false', Bool.and_eq_true, Bool.or_eq_true, Bool.or_eq_false_iff, Bool.not_true, Bool.not_false, decide_eq_true_eq, decide_eq_false_iff_not, Bool.and_eq_false_imp, bne_iff_ne, ne_eq, beq_iff_eq, beq_eq_false_iff_ne, bne_eq_false_iff_eq, bne_self_eq_false, not_true_eq_false, eq_self, Bool.true_eq_false, Bool.false_eq_true] at hc | skip))
      | refine s_index1n tabOk rfl rfl rfl rfl (by omega) ?_
      | refine s_indexn tabOk rfl rfl rfl rfl (by omega) ?_
      | refine s_index1 tabOk rfl rfl rfl rfl (by omega) (by omega) ?_
      | refine sh_load tabOk (by assumption) rfl rfl rfl rfl (by repeat (first | exact List.Mem.head _ | apply List.Mem.tail)) (by rfl) (by rfl) ?_
      | refine sh_loada tabOk (by assumption) rfl rfl rfl rfl (by repeat (first | exact List.Mem.head _ | apply List.Mem.tail)) (by rfl) ?_
      | (refine sh_box (by assumption) rfl rfl rfl rfl rfl rfl ?_; intro _ _ _)
      | (refine sh_alloc tabOk (by assumption) rfl rfl rfl rfl rfl rfl ?_; intro _ _ _)
      | (refine sh_store tabOk (by assumption) rfl rfl rfl rfl rfl rfl (by repeat (first | exact Upd.here | apply Upd.there)) (by rfl) ?_; intro _ _)
      | (refine sh_lit tabOk (by assumption) rfl rfl rfl rfl rfl rfl rfl rfl rfl rfl rfl ?_; intro _ _ _)
      | refine sh_build tabOk rfl rfl rfl rfl rfl rfl ?_
      | refine rndh_ret ?_
      | refine rndh_exit ?_)
        refine retK_ret tabOk (congrArg Array.toList Try.results14) (by repeat (first | exact rv_nil | apply rv_tmp rfl rfl | apply rv_cellH (by assumption) rfl rfl rfl (by repeat (first | exact List.Mem.head _ | apply List.Mem.tail)) rfl)) ?_
        exact JoinH.good (by simp [joinOk, hj, e1, e2, e3, e4]) (Hp.picks (by assumption) (by repeat (first | exact Picks.nil | (apply Picks.cons; (repeat (first | exact Pick.here | apply Pick.there))))))
    · refine th_load tabOk (by assumption) [4, 9, 10, 11, 12, 13] (by kernel_rfl) rfl rfl rfl rfl (by repeat (first | exact List.Mem.head _ | apply List.Mem.tail)) (by rfl) (by rfl) (by repeat (first | exact List.nil_sublist _ | refine List.Sublist.cons_cons _ ?_ | refine List.Sublist.cons _ ?_)) ?_
      refine so_single (by kernel_rfl) (th_append tabOk (by assumption) [10, 9, 11, 12, 13] (by kernel_rfl) rfl rfl rfl rfl rfl rfl rfl rfl rfl (fun _ _ => (by repeat (first | exact Upd.here | apply Upd.there))) (hs2 (by assumption)) (by omega) (fun _ _ => (by repeat (first | exact List.nil_sublist _ | refine List.Sublist.cons_cons _ ?_ | refine List.Sublist.cons _ ?_))) ?_)
      intro ad4 cp4 W4 H4
      rw [← List.flatMap_append, el2] at H4
      rw [el2]
      repeat (first
      | refine so_pure tabOk (by first | exact lax_thn | exact lax_blk lax_thn | exact lax_rnd | exact lax_blk lax_rnd | exact lax_rndh | exact lax_blk lax_rndh | exact lax_mid) rfl rfl rfl rfl (by kernel_rfl) ?_
      | refine so_load' tabOk (by first | exact lax_thn | exact lax_blk lax_thn | exact lax_rnd | exact lax_blk lax_rnd | exact lax_rndh | exact lax_blk lax_rndh | exact lax_mid) rfl rfl rfl rfl (by repeat (first | exact List.Mem.head _ | apply List.Mem.tail)) (by rfl) (by rfl) (by kernel_rfl) ?_
      | refine so_loada' tabOk (by first | exact lax_thn | exact lax_blk lax_thn | exact lax_rnd | exact lax_blk lax_rnd | exact lax_rndh | exact lax_blk lax_rndh | exact lax_mid) rfl rfl rfl rfl (by repeat (first | exact List.Mem.head _ | apply List.Mem.tail)) (by rfl) (by kernel_rfl) ?_
      | refine so_len tabOk (by first | exact lax_thn | exact lax_blk lax_thn | exact lax_rnd | exact lax_blk lax_rnd | exact lax_rndh | exact lax_blk lax_rndh | exact lax_mid) rfl rfl rfl rfl (by kernel_rfl) ?_
      | refine so_build' tabOk (by first | exact lax_thn | exact lax_blk lax_thn | exact lax_rnd | exact lax_blk lax_rnd | exact lax_rndh | exact lax_blk lax_rndh | exact lax_mid) rfl rfl rfl rfl rfl rfl (by kernel_rfl) ?_
      | refine so_index1n tabOk (by first | exact lax_thn | exact lax_blk lax_thn | exact lax_rnd | exact lax_blk lax_rnd | exact lax_rndh | exact lax_blk lax_rndh | exact lax_mid) rfl rfl rfl rfl (by omega) (by kernel_rfl) ?_
      | refine so_indexn tabOk (by first | exact lax_thn | exact lax_blk lax_thn | exact lax_rnd | exact lax_blk lax_rnd | exact lax_rndh | exact lax_blk lax_rndh | exact lax_mid) rfl rfl rfl rfl (by omega) (by kernel_rfl) ?_
      | refine so_index1 tabOk (by first | exact lax_thn | exact lax_blk lax_thn | exact lax_rnd | exact lax_blk lax_rnd | exact lax_rndh | exact lax_blk lax_rndh | exact lax_mid) rfl rfl rfl rfl (by omega) (by omega) (by kernel_rfl) ?_
      | refine so_pass (by first | exact lax_thn | exact lax_blk lax_thn | exact lax_rnd | exact lax_blk lax_rnd | exact lax_rndh | exact lax_blk lax_rndh | exact lax_mid) rfl rfl rfl (by kernel_rfl) ?_
      | refine so_arith tabOk (by first | exact lax_thn | exact lax_blk lax_thn | exact lax_rnd | exact lax_blk lax_rnd | exact lax_rndh | exact lax_blk lax_rndh | exact lax_mid) rfl rfl rfl rfl (by simp only [InR]; omega) (by kernel_rfl) ?_)
      refine so_single (by kernel_rfl) (th_append tabOk (by assumption) [11, 12, 13] (by kernel_rfl) rfl rfl rfl rfl rfl rfl rfl rfl rfl (fun _ _ => (by repeat (first | exact Upd.here | apply Upd.there))) (hs3 (by assumption)) (by omega) (fun _ _ => (by repeat (first | exact List.nil_sublist _ | refine List.Sublist.cons_cons _ ?_ | refine List.Sublist.cons _ ?_))) ?_)
      intro ad9 cp9 W9 H9
      rw [← List.map_append, el3] at H9
      rw [el3]
      refine so_single (by kernel_rfl) (th_store tabOk (by assumption) (by simp [cv, Cn.c1, cl]) [12, 13] (by kernel_rfl) rfl rfl rfl rfl rfl rfl (by repeat (first | exact Upd.here | apply Upd.there)) (by rfl) (by repeat (first | exact List.nil_sublist _ | refine List.Sublist.cons_cons _ ?_ | refine List.Sublist.cons _ ?_)) ?_)
      intro W11 H11
      repeat (first
      | refine so_pure tabOk (by first | exact lax_thn | exact lax_blk lax_thn | exact lax_rnd | exact lax_blk lax_rnd | exact lax_rndh | exact lax_blk lax_rndh | exact lax_mid) rfl rfl rfl rfl (by kernel_rfl) ?_
      | refine so_load' tabOk (by first | exact lax_thn | exact lax_blk lax_thn | exact lax_rnd | exact lax_blk lax_rnd | exact lax_rndh | exact lax_blk lax_rndh | exact lax_mid) rfl rfl rfl rfl (by repeat (first | exact List.Mem.head _ | apply List.Mem.tail)) (by rfl) (by rfl) (by kernel_rfl) ?_
      | refine so_loada' tabOk (by first | exact lax_thn | exact lax_blk lax_thn | exact lax_rnd | exact lax_blk lax_rnd | exact lax_rndh | exact lax_blk lax_rndh | exact lax_mid) rfl rfl rfl rfl (by repeat (first | exact List.Mem.head _ | apply List.Mem.tail)) (by rfl) (by kernel_rfl) ?_
      | refine so_len tabOk (by first | exact lax_thn | exact lax_blk lax_thn | exact lax_rnd | exact lax_blk lax_rnd | exact lax_rndh | exact lax_blk lax_rndh | exact lax_mid) rfl rfl rfl rfl (by kernel_rfl) ?_
      | refine so_build' tabOk (by first | exact lax_thn | exact lax_blk lax_thn | exact lax_rnd | exact lax_blk lax_rnd | exact lax_rndh | exact lax_blk lax_rndh | exact lax_mid) rfl rfl rfl rfl rfl rfl (by kernel_rfl) ?_
      | refine so_index1n tabOk (by first | exact lax_thn | exact lax_blk lax_thn | exact lax_rnd | exact lax_blk lax_rnd | exact lax_rndh | exact lax_blk lax_rndh | exact lax_mid) rfl rfl rfl rfl (by omega) (by kernel_rfl) ?_
      | refine so_indexn tabOk (by first | exact lax_thn | exact lax_blk lax_thn | exact lax_rnd | exact lax_blk lax_rnd | exact lax_rndh | exact lax_blk lax_rndh | exact lax_mid) rfl rfl rfl rfl (by omega) (by kernel_rfl) ?_
      | refine so_index1 tabOk (by first | exact lax_thn | exact lax_blk lax_thn | exact lax_rnd | exact lax_blk lax_rnd | exact lax_rndh | exact lax_blk lax_rndh | exact lax_mid) rfl rfl rfl rfl (by omega) (by omega) (by kernel_rfl) ?_
      | refine so_pass (by first | exact lax_thn | exact lax_blk lax_thn | exact lax_rnd | exact lax_blk lax_rnd | exact lax_rndh | exact lax_blk lax_rndh | exact lax_mid) rfl rfl rfl (by kernel_rfl) ?_
      | refine so_arith tabOk (by first | exact lax_thn | exact lax_blk lax_thn | exact lax_rnd | exact lax_blk lax_rnd | exact lax_rndh | exact lax_blk lax_rndh | exact lax_mid) rfl rfl rfl rfl (by simp only [InR]; omega) (by kernel_rfl) ?_)
      refine so_single (by kernel_rfl) (th_store tabOk (by assumption) (by simp [cv, Cn.c1, cl]) [] (by kernel_rfl) rfl rfl rfl rfl rfl rfl (by repeat (first | exact Upd.here | apply Upd.there)) (by rfl) (by repeat (first | exact List.nil_sublist _ | refine List.Sublist.cons_cons _ ?_ | refine List.Sublist.cons _ ?_)) ?_)
      intro W13 H13
      refine so_done ?_
      repeat' (first
      | refine s_pure tabOk rfl rfl rfl rfl ?_
      | refine aops_nil ?_
      | refine thn_normal ?_
      | refine aw_seq ?_
      | refine aw_reg ?_
      | refine s_pass rfl rfl rfl ?_
      | refine s_len tabOk rfl rfl rfl rfl ?_
      | refine aw_true rfl ?_
      | refine aw_false rfl ?_
      | refine aw_block ?_
      | refine aw_skip ?_
      | refine aw_exit ?_
      | refine blk_exit ?_
      | refine blk_exit_other rfl ?_
      | refine blk_normal ?_
      | refine thn_exit ?_
      | refine thn_ret ?_
      | refine blk_ret ?_
      | refine rnd_ret ?_
      | refine rnd_exit ?_
      | refine aw_ret ?_
      | refine s_arith tabOk rfl rfl rfl rfl (by simp only [InR]; omega) ?_
      | ((fail_if_success refine s_told rfl rfl ?_); refine s_part rfl rfl rfl ?_ ?_ <;> intro hc <;> (first | replace hc := of_decide_eq_true hc | replace hc := of_decide_eq_false hc | replace hc := eq_of_beq hc | simp only [Bool.not_eq_true', Bool.not_eq_false', Bool.and_eq_true, Bool.or_eq_true, Bool.or_eq_false_iff, Bool.not_true, Bool.not_false, decide_eq_true_eq, decide_eq_false_iff_not, Bool.and_eq_false_imp, bne_iff_ne, ne_eq, beq_iff_eq, beq_eq_false_iff_ne, bne_eq_false_iff_eq, bne_self_eq_false, not_true_eq_false, eq_self, Bool.true_eq_false, Bool.false_eq_true] at hc | skip))
      | (refine aw_if rfl ?_ ?_ <;> intro hc <;> (first | replace hc := of_decide_eq_true hc | replace hc := of_decide_eq_false hc | replace hc := eq_of_beq hc | simp only [Bool.not_eq_true', Bool.not_eq_false', Bool.and_eq_true, Bool.or_eq_true, Bool.or_eq_false_iff, Bool.not_true, Bool.not_false, decide_eq_true_eq, decide_eq_false_iff_not, Bool.and_eq_false_imp, bne_iff_ne, ne_eq, beq_iff_eq, beq_eq_false_iff_ne, bne_eq_false_iff_eq, bne_self_eq_false, not_true_eq_false, eq_self, Bool.true_eq_false, Bool.false_eq_true] at hc | skip))
      | refine s_index1n tabOk rfl rfl rfl rfl (by omega) ?_
      | refine s_indexn tabOk rfl rfl rfl rfl (by omega) ?_
      | refine s_index1 tabOk rfl rfl rfl rfl (by omega) (by omega) ?_
      | refine sh_load tabOk (by assumption) rfl rfl rfl rfl (by repeat (first | exact List.Mem.head _ | apply List.Mem.tail)) (by rfl) (by rfl) ?_
      | refine sh_loada tabOk (by assumption) rfl rfl rfl rfl (by repeat (first | exact List.Mem.head _ | apply List.Mem.tail)) (by rfl) ?_
      | (refine sh_box (by assumption) rfl rfl rfl rfl rfl rfl ?_; intro _ _ _)
      | (refine sh_alloc tabOk (by assumption) rfl rfl rfl rfl rfl rfl ?_; intro _ _ _)
      | (refine sh_store tabOk (by assumption) rfl rfl rfl rfl rfl rfl (by repeat (first | exact Upd.here | apply Upd.there)) (by rfl) ?_; intro _ _)
      | (refine sh_lit tabOk (by assumption) rfl rfl rfl rfl rfl rfl rfl rfl rfl rfl rfl ?_; intro _ _ _)
      | refine sh_build tabOk rfl rfl rfl rfl rfl rfl ?_
      | refine rndh_ret ?_
      | refine rndh_exit ?_)
      refine s_call rfl rfl rfl rfl ent66 (c_impl_toldRiver (r := joinR r s q) (Hp.size (by assumption)) (Hp.rv (by assumption) (by repeat (first | exact List.Mem.head _ | apply List.Mem.tail)) (by repeat (first | exact List.Mem.head _ | apply List.Mem.tail)) (by repeat (first | exact List.Mem.head _ | apply List.Mem.tail))) hsm) ?_
      rintro _ W20 ⟨rfl, g20⟩
      have H20 := Hp.call0 (by assumption) g20
      cases hj : rvOk (joinR r s q)
      · simp only [hj, Bool.false_eq_true, if_false]
        repeat' (first
      | refine s_pure tabOk rfl rfl rfl rfl ?_
      | refine aops_nil ?_
      | refine thn_normal ?_
      | refine aw_seq ?_
      | refine aw_reg ?_
      | refine s_pass rfl rfl rfl ?_
      | refine s_len tabOk rfl rfl rfl rfl ?_
      | refine aw_true rfl ?_
      | refine aw_false rfl ?_
      | refine aw_block ?_
      | refine aw_skip ?_
      | refine aw_exit ?_
      | refine blk_exit ?_
      | refine blk_exit_other rfl ?_
      | refine blk_normal ?_
      | refine thn_exit ?_
      | refine thn_ret ?_
      | refine blk_ret ?_
      | refine rnd_ret ?_
      | refine rnd_exit ?_
      | refine aw_ret ?_
      | refine s_arith tabOk rfl rfl rfl rfl (by simp only [InR]; omega) ?_
      | ((fail_if_success refine s_told rfl rfl ?_); refine s_part rfl rfl rfl ?_ ?_ <;> intro hc <;> (first | replace hc := of_decide_eq_true hc | replace hc := of_decide_eq_false hc | replace hc := eq_of_beq hc | simp only [Bool.not_eq_true', Bool.not_eq_false', Bool.and_eq_true, Bool.or_eq_true, Bool.or_eq_false_iff, Bool.not_true, Bool.not_false, decide_eq_true_eq, decide_eq_false_iff_not, Bool.and_eq_false_imp, bne_iff_ne, ne_eq, beq_iff_eq, beq_eq_false_iff_ne, bne_eq_false_iff_eq, bne_self_eq_false, not_true_eq_false, eq_self, Bool.true_eq_false, Bool.false_eq_true] at hc | skip))
      | (refine aw_if rfl ?_ ?_ <;> intro hc <;> (first | replace hc := of_decide_eq_true hc | replace hc := of_decide_eq_false hc | replace hc := eq_of_beq hc | simp only [Bool.not_eq_true', Bool.not_eq_false', Bool.and_eq_true, Bool.or_eq_true, Bool.or_eq_false_iff, Bool.not_true, Bool.not_false, decide_eq_true_eq, decide_eq_false_iff_not, Bool.and_eq_false_imp, bne_iff_ne, ne_eq, beq_iff_eq, beq_eq_false_iff_ne, bne_eq_false_iff_eq, bne_self_eq_false, not_true_eq_false, eq_self, Bool.true_eq_false, Bool.false_eq_true] at hc | skip))
      | refine s_index1n tabOk rfl rfl rfl rfl (by omega) ?_
      | refine s_indexn tabOk rfl rfl rfl rfl (by omega) ?_
      | refine s_index1 tabOk rfl rfl rfl rfl (by omega) (by omega) ?_
      | refine sh_load tabOk (by assumption) rfl rfl rfl rfl (by repeat (first | exact List.Mem.head _ | apply List.Mem.tail)) (by rfl) (by rfl) ?_
      | refine sh_loada tabOk (by assumption) rfl rfl rfl rfl (by repeat (first | exact List.Mem.head _ | apply List.Mem.tail)) (by rfl) ?_
      | (refine sh_box (by assumption) rfl rfl rfl rfl rfl rfl ?_; intro _ _ _)
      | (refine sh_alloc tabOk (by assumption) rfl rfl rfl rfl rfl rfl ?_; intro _ _ _)
      | (refine sh_store tabOk (by assumption) rfl rfl rfl rfl rfl rfl (by repeat (first | exact Upd.here | apply Upd.there)) (by rfl) ?_; intro _ _)
      | (refine sh_lit tabOk (by assumption) rfl rfl rfl rfl rfl rfl rfl rfl rfl rfl rfl ?_; intro _ _ _)
      | refine sh_build tabOk rfl rfl rfl rfl rfl rfl ?_
      | refine rndh_ret ?_
      | refine rndh_exit ?_)
        refine retK_ret tabOk (congrArg Array.toList Try.results14) (by repeat (first | exact rv_nil | apply rv_tmp rfl rfl | apply rv_cellH (by assumption) rfl rfl rfl (by repeat (first | exact List.Mem.head _ | apply List.Mem.tail)) rfl)) ?_
        exact JoinH.bad (by simp [joinOk, hj]) (Hp.sub (by assumption) (by repeat (first | exact List.nil_sublist _ | refine List.Sublist.cons_cons _ ?_ | refine List.Sublist.cons _ ?_)))
      · simp only [hj, if_true]
        repeat' (first
      | refine s_pure tabOk rfl rfl rfl rfl ?_
      | refine aops_nil ?_
      | refine thn_normal ?_
      | refine aw_seq ?_
      | refine aw_reg ?_
      | refine s_pass rfl rfl rfl ?_
      | refine s_len tabOk rfl rfl rfl rfl ?_
      | refine aw_true rfl ?_
      | refine aw_false rfl ?_
      | refine aw_block ?_
      | refine aw_skip ?_
      | refine aw_exit ?_
      | refine blk_exit ?_
      | refine blk_exit_other rfl ?_
      | refine blk_normal ?_
      | refine thn_exit ?_
      | refine thn_ret ?_
      | refine blk_ret ?_
      | refine rnd_ret ?_
      | refine rnd_exit ?_
      | refine aw_ret ?_
      | refine s_arith tabOk rfl rfl rfl rfl (by simp only [InR]; omega) ?_
      | ((fail_if_success refine s_told rfl rfl ?_); refine s_part rfl rfl rfl ?_ ?_ <;> intro hc <;> (first | replace hc := of_decide_eq_true hc | replace hc := of_decide_eq_false hc | replace hc := eq_of_beq hc | simp only [Bool.not_eq_true', Bool.not_eq_false', Bool.and_eq_true, Bool.or_eq_true, Bool.or_eq_false_iff, Bool.not_true, Bool.not_false, decide_eq_true_eq, decide_eq_false_iff_not, Bool.and_eq_false_imp, bne_iff_ne, ne_eq, beq_iff_eq, beq_eq_false_iff_ne, bne_eq_false_iff_eq, bne_self_eq_false, not_true_eq_false, eq_self, Bool.true_eq_false, Bool.false_eq_true] at hc | skip))
      | (refine aw_if rfl ?_ ?_ <;> intro hc <;> (first | replace hc := of_decide_eq_true hc | replace hc := of_decide_eq_false hc | replace hc := eq_of_beq hc | simp only [Bool.not_eq_true', Bool.not_eq_false', Bool.and_eq_true, Bool.or_eq_true, Bool.or_eq_false_iff, Bool.not_true, Bool.not_false, decide_eq_true_eq, decide_eq_false_iff_not, Bool.and_eq_false_imp, bne_iff_ne, ne_eq, beq_iff_eq, beq_eq_false_iff_ne, bne_eq_false_iff_eq, bne_self_eq_false, not_true_eq_false, eq_self, Bool.true_eq_false, Bool.false_eq_true] at hc | skip))
      | refine s_index1n tabOk rfl rfl rfl rfl (by omega) ?_
      | refine s_indexn tabOk rfl rfl rfl rfl (by omega) ?_
      | refine s_index1 tabOk rfl rfl rfl rfl (by omega) (by omega) ?_
      | refine sh_load tabOk (by assumption) rfl rfl rfl rfl (by repeat (first | exact List.Mem.head _ | apply List.Mem.tail)) (by rfl) (by rfl) ?_
      | refine sh_loada tabOk (by assumption) rfl rfl rfl rfl (by repeat (first | exact List.Mem.head _ | apply List.Mem.tail)) (by rfl) ?_
      | (refine sh_box (by assumption) rfl rfl rfl rfl rfl rfl ?_; intro _ _ _)
      | (refine sh_alloc tabOk (by assumption) rfl rfl rfl rfl rfl rfl ?_; intro _ _ _)
      | (refine sh_store tabOk (by assumption) rfl rfl rfl rfl rfl rfl (by repeat (first | exact Upd.here | apply Upd.there)) (by rfl) ?_; intro _ _)
      | (refine sh_lit tabOk (by assumption) rfl rfl rfl rfl rfl rfl rfl rfl rfl rfl rfl ?_; intro _ _ _)
      | refine sh_build tabOk rfl rfl rfl rfl rfl rfl ?_
      | refine rndh_ret ?_
      | refine rndh_exit ?_)
        refine retK_ret tabOk (congrArg Array.toList Try.results14) (by repeat (first | exact rv_nil | apply rv_tmp rfl rfl | apply rv_cellH (by assumption) rfl rfl rfl (by repeat (first | exact List.Mem.head _ | apply List.Mem.tail)) rfl)) ?_
        exact JoinH.good (by simp [joinOk, hj, e1, e2, e3, e4]) (Hp.picks (by assumption) (by repeat (first | exact Picks.nil | (apply Picks.cons; (repeat (first | exact Pick.here | apply Pick.there))))))
  · refine th_load tabOk (by assumption) [1, 4, 9, 10, 11, 12, 13] (by kernel_rfl) rfl rfl rfl rfl (by repeat (first | exact List.Mem.head _ | apply List.Mem.tail)) (by rfl) (by rfl) (by repeat (first | exact List.nil_sublist _ | refine List.Sublist.cons_cons _ ?_ | refine List.Sublist.cons _ ?_)) ?_
    refine so_single (by kernel_rfl) (th_load tabOk (by assumption) [4, 9, 10, 11, 12, 13] (by kernel_rfl) rfl rfl rfl rfl (by repeat (first | exact List.Mem.head _ | apply List.Mem.tail)) (by rfl) (by rfl) (by repeat (first | exact List.nil_sublist _ | refine List.Sublist.cons_cons _ ?_ | refine List.Sublist.cons _ ?_)) ?_)
    refine so_single (by kernel_rfl) (th_append tabOk (by assumption) [10, 9, 11, 12, 13] (by kernel_rfl) rfl rfl rfl rfl rfl rfl rfl rfl rfl (fun _ _ => (by repeat (first | exact Upd.here | apply Upd.there))) (hs2 (by assumption)) (by omega) (fun _ _ => (by repeat (first | exact List.nil_sublist _ | refine List.Sublist.cons_cons _ ?_ | refine List.Sublist.cons _ ?_))) ?_)
    intro ad4 cp4 W4 H4
    rw [← List.flatMap_append, el2] at H4
    rw [el2]
    repeat (first
      | refine so_pure tabOk (by first | exact lax_thn | exact lax_blk lax_thn | exact lax_rnd | exact lax_blk lax_rnd | exact lax_rndh | exact lax_blk lax_rndh | exact lax_mid) rfl rfl rfl rfl (by kernel_rfl) ?_
      | refine so_load' tabOk (by first | exact lax_thn | exact lax_blk lax_thn | exact lax_rnd | exact lax_blk lax_rnd | exact lax_rndh | exact lax_blk lax_rndh | exact lax_mid) rfl rfl rfl rfl (by repeat (first | exact List.Mem.head _ | apply List.Mem.tail)) (by rfl) (by rfl) (by kernel_rfl) ?_
      | refine so_loada' tabOk (by first | exact lax_thn | exact lax_blk lax_thn | exact lax_rnd | exact lax_blk lax_rnd | exact lax_rndh | exact lax_blk lax_rndh | exact lax_mid) rfl rfl rfl rfl (by repeat (first | exact List.Mem.head _ | apply List.Mem.tail)) (by rfl) (by kernel_rfl) ?_
      | refine so_len tabOk (by first | exact lax_thn | exact lax_blk lax_thn | exact lax_rnd | exact lax_blk lax_rnd | exact lax_rndh | exact lax_blk lax_rndh | exact lax_mid) rfl rfl rfl rfl (by kernel_rfl) ?_
      | refine so_build' tabOk (by first | exact lax_thn | exact lax_blk lax_thn | exact lax_rnd | exact lax_blk lax_rnd | exact lax_rndh | exact lax_blk lax_rndh | exact lax_mid) rfl rfl rfl rfl rfl rfl (by kernel_rfl) ?_
      | refine so_index1n tabOk (by first | exact lax_thn | exact lax_blk lax_thn | exact lax_rnd | exact lax_blk lax_rnd | exact lax_rndh | exact lax_blk lax_rndh | exact lax_mid) rfl rfl rfl rfl (by omega) (by kernel_rfl) ?_
      | refine so_indexn tabOk (by first | exact lax_thn | exact lax_blk lax_thn | exact lax_rnd | exact lax_blk lax_rnd | exact lax_rndh | exact lax_blk lax_rndh | exact lax_mid) rfl rfl rfl rfl (by omega) (by kernel_rfl) ?_
      | refine so_index1 tabOk (by first | exact lax_thn | exact lax_blk lax_thn | exact lax_rnd | exact lax_blk lax_rnd | exact lax_rndh | exact lax_blk lax_rndh | exact lax_mid) rfl rfl rfl rfl (by omega) (by omega) (by kernel_rfl) ?_
      | refine so_pass (by first | exact lax_thn | exact lax_blk lax_thn | exact lax_rnd | exact lax_blk lax_rnd | exact lax_rndh | exact lax_blk lax_rndh | exact lax_mid) rfl rfl rfl (by kernel_rfl) ?_
      | refine so_arith tabOk (by first | exact lax_thn | exact lax_blk lax_thn | exact lax_rnd | exact lax_blk lax_rnd | exact lax_rndh | exact lax_blk lax_rndh | exact lax_mid) rfl rfl rfl rfl (by simp only [InR]; omega) (by kernel_rfl) ?_)
    refine so_single (by kernel_rfl) (th_append tabOk (by assumption) [11, 12, 13] (by kernel_rfl) rfl rfl rfl rfl rfl rfl rfl rfl rfl (fun _ _ => (by repeat (first | exact Upd.here | apply Upd.there))) (hs3 (by assumption)) (by omega) (fun _ _ => (by repeat (first | exact List.nil_sublist _ | refine List.Sublist.cons_cons _ ?_ | refine List.Sublist.cons _ ?_))) ?_)
    intro ad9 cp9 W9 H9
    rw [← List.map_append, el3] at H9
    rw [el3]
    refine so_single (by kernel_rfl) (th_store tabOk (by assumption) (by simp [cv, Cn.c1, cl]) [12, 13] (by kernel_rfl) rfl rfl rfl rfl rfl rfl (by repeat (first | exact Upd.here | apply Upd.there)) (by rfl) (by repeat (first | exact List.nil_sublist _ | refine List.Sublist.cons_cons _ ?_ | refine List.Sublist.cons _ ?_)) ?_)
    intro W11 H11
    repeat (first
      | refine so_pure tabOk (by first | exact lax_thn | exact lax_blk lax_thn | exact lax_rnd | exact lax_blk lax_rnd | exact lax_rndh | exact lax_blk lax_rndh | exact lax_mid) rfl rfl rfl rfl (by kernel_rfl) ?_
      | refine so_load' tabOk (by first | exact lax_thn | exact lax_blk lax_thn | exact lax_rnd | exact lax_blk lax_rnd | exact lax_rndh | exact lax_blk lax_rndh | exact lax_mid) rfl rfl rfl rfl (by repeat (first | exact List.Mem.head _ | apply List.Mem.tail)) (by rfl) (by rfl) (by kernel_rfl) ?_
      | refine so_loada' tabOk (by first | exact lax_thn | exact lax_blk lax_thn | exact lax_rnd | exact lax_blk lax_rnd | exact lax_rndh | exact lax_blk lax_rndh | exact lax_mid) rfl rfl rfl rfl (by repeat (first | exact List.Mem.head _ | apply List.Mem.tail)) (by rfl) (by kernel_rfl) ?_
      | refine so_len tabOk (by first | exact lax_thn | exact lax_blk lax_thn | exact lax_rnd | exact lax_blk lax_rnd | exact lax_rndh | exact lax_blk lax_rndh | exact lax_mid) rfl rfl rfl rfl (by kernel_rfl) ?_
      | refine so_build' tabOk (by first | exact lax_thn | exact lax_blk lax_thn | exact lax_rnd | exact lax_blk lax_rnd | exact lax_rndh | exact lax_blk lax_rndh | exact lax_mid) rfl rfl rfl rfl rfl rfl (by kernel_rfl) ?_
      | refine so_index1n tabOk (by first | exact lax_thn | exact lax_blk lax_thn | exact lax_rnd | exact lax_blk lax_rnd | exact lax_rndh | exact lax_blk lax_rndh | exact lax_mid) rfl rfl rfl rfl (by omega) (by kernel_rfl) ?_
      | refine so_indexn tabOk (by first | exact lax_thn | exact lax_blk lax_thn | exact lax_rnd | exact lax_blk lax_rnd | exact lax_rndh | exact lax_blk lax_rndh | exact lax_mid) rfl rfl rfl rfl (by omega) (by kernel_rfl) ?_
      | refine so_index1 tabOk (by first | exact lax_thn | exact lax_blk lax_thn | exact lax_rnd | exact lax_blk lax_rnd | exact lax_rndh | exact lax_blk lax_rndh | exact lax_mid) rfl rfl rfl rfl (by omega) (by omega) (by kernel_rfl) ?_
      | refine so_pass (by first | exact lax_thn | exact lax_blk lax_thn | exact lax_rnd | exact lax_blk lax_rnd | exact lax_rndh | exact lax_blk lax_rndh | exact lax_mid) rfl rfl rfl (by kernel_rfl) ?_
      | refine so_arith tabOk (by first | exact lax_thn | exact lax_blk lax_thn | exact lax_rnd | exact lax_blk lax_rnd | exact lax_rndh | exact lax_blk lax_rndh | exact lax_mid) rfl rfl rfl rfl (by simp only [InR]; omega) (by kernel_rfl) ?_)
    refine so_single (by kernel_rfl) (th_store tabOk (by assumption) (by simp [cv, Cn.c1, cl]) [] (by kernel_rfl) rfl rfl rfl rfl rfl rfl (by repeat (first | exact Upd.here | apply Upd.there)) (by rfl) (by repeat (first | exact List.nil_sublist _ | refine List.Sublist.cons_cons _ ?_ | refine List.Sublist.cons _ ?_)) ?_)
    intro W13 H13
    refine so_done ?_
    repeat' (first
      | refine s_pure tabOk rfl rfl rfl rfl ?_
      | refine aops_nil ?_
      | refine thn_normal ?_
      | refine aw_seq ?_
      | refine aw_reg ?_
      | refine s_pass rfl rfl rfl ?_
      | refine s_len tabOk rfl rfl rfl rfl ?_
      | refine aw_true rfl ?_
      | refine aw_false rfl ?_
      | refine aw_block ?_
      | refine aw_skip ?_
      | refine aw_exit ?_
      | refine blk_exit ?_
      | refine blk_exit_other rfl ?_
      | refine blk_normal ?_
      | refine thn_exit ?_
      | refine thn_ret ?_
      | refine blk_ret ?_
      | refine rnd_ret ?_
      | refine rnd_exit ?_
      | refine aw_ret ?_
      | refine s_arith tabOk rfl rfl rfl rfl (by simp only [InR]; omega) ?_
      | ((fail_if_success refine s_told rfl rfl ?_); refine s_part rfl rfl rfl ?_ ?_ <;> intro hc <;> (first | replace hc := of_decide_eq_true hc | replace hc := of_decide_eq_false hc | replace hc := eq_of_beq hc | simp only [Bool.not_eq_true', Bool.not_eq_false', Bool.and_eq_true, Bool.or_eq_true, Bool.or_eq_false_iff, Bool.not_true, Bool.not_false, decide_eq_true_eq, decide_eq_false_iff_not, Bool.and_eq_false_imp, bne_iff_ne, ne_eq, beq_iff_eq, beq_eq_false_iff_ne, bne_eq_false_iff_eq, bne_self_eq_false, not_true_eq_false, eq_self, Bool.true_eq_false, Bool.false_eq_true] at hc | skip))
      | (refine aw_if rfl ?_ ?_ <;> intro hc <;> (first | replace hc := of_decide_eq_true hc | replace hc := of_decide_eq_false hc | replace hc := eq_of_beq hc | simp only [Bool.not_eq_true', Bool.not_eq_false', Bool.and_eq_true, Bool.or_eq_true, Bool.or_eq_false_iff, Bool.not_true, Bool.not_false, decide_eq_true_eq, decide_eq_false_iff_not, Bool.and_eq_false_imp, bne_iff_ne, ne_eq, beq_iff_eq, beq_eq_false_iff_ne, bne_eq_false_iff_eq, bne_self_eq_false, not_true_eq_false, eq_self, Bool.true_eq_false, Bool.false_eq_true] at hc | skip))
      | refine s_index1n tabOk rfl rfl rfl rfl (by omega) ?_
      | refine s_indexn tabOk rfl rfl rfl rfl (by omega) ?_
      | refine s_index1 tabOk rfl rfl rfl rfl (by omega) (by omega) ?_
      | refine sh_load tabOk (by assumption) rfl rfl rfl rfl (by repeat (first | exact List.Mem.head _ | apply List.Mem.tail)) (by rfl) (by rfl) ?_
      | refine sh_loada tabOk (by assumption) rfl rfl rfl rfl (by repeat (first | exact List.Mem.head _ | apply List.Mem.tail)) (by rfl) ?_
      | (refine sh_box (by assumption) rfl rfl rfl rfl rfl rfl ?_; intro _ _ _)
      | (refine sh_alloc tabOk (by assumption) rfl rfl rfl rfl rfl rfl ?_; intro _ _ _)
      | (refine sh_store tabOk (by assumption) rfl rfl rfl rfl rfl rfl (by repeat (first | exact Upd.here | apply Upd.there)) (by rfl) ?_; intro _ _)
      | (refine sh_lit tabOk (by assumption) rfl rfl rfl rfl rfl rfl rfl rfl rfl rfl rfl ?_; intro _ _ _)
      | refine sh_build tabOk rfl rfl rfl rfl rfl rfl ?_
      | refine rndh_ret ?_
      | refine rndh_exit ?_)
    refine s_call rfl rfl rfl rfl ent66 (c_impl_toldRiver (r := joinR r s q) (Hp.size (by assumption)) (Hp.rv (by assumption) (by repeat (first | exact List.Mem.head _ | apply List.Mem.tail)) (by repeat (first | exact List.Mem.head _ | apply List.Mem.tail)) (by repeat (first | exact List.Mem.head _ | apply List.Mem.tail))) hsm) ?_
    rintro _ W20 ⟨rfl, g20⟩
    have H20 := Hp.call0 (by assumption) g20
    cases hj : rvOk (joinR r s q)
    · simp only [hj, Bool.false_eq_true, if_false]
      repeat' (first
      | refine s_pure tabOk rfl rfl rfl rfl ?_
      | refine aops_nil ?_
      | refine thn_normal ?_
      | refine aw_seq ?_
      | refine aw_reg ?_
      | refine s_pass rfl rfl rfl ?_
      | refine s_len tabOk rfl rfl rfl rfl ?_
      | refine aw_true rfl ?_
      | refine aw_false rfl ?_
      | refine aw_block ?_
      | refine aw_skip ?_
      | refine aw_exit ?_
      | refine blk_exit ?_
      | refine blk_exit_other rfl ?_
      | refine blk_normal ?_
      | refine thn_exit ?_
      | refine thn_ret ?_
      | refine blk_ret ?_
      | refine rnd_ret ?_
      | refine rnd_exit ?_
      | refine aw_ret ?_
      | refine s_arith tabOk rfl rfl rfl rfl (by simp only [InR]; omega) ?_
      | ((fail_if_success refine s_told rfl rfl ?_); refine s_part rfl rfl rfl ?_ ?_ <;> intro hc <;> (first | replace hc := of_decide_eq_true hc | replace hc := of_decide_eq_false hc | replace hc := eq_of_beq hc | simp only [Bool.not_eq_true', Bool.not_eq_false', Bool.and_eq_true, Bool.or_eq_true, Bool.or_eq_false_iff, Bool.not_true, Bool.not_false, decide_eq_true_eq, decide_eq_false_iff_not, Bool.and_eq_false_imp, bne_iff_ne, ne_eq, beq_iff_eq, beq_eq_false_iff_ne, bne_eq_false_iff_eq, bne_self_eq_false, not_true_eq_false, eq_self, Bool.true_eq_false, Bool.false_eq_true] at hc | skip))
      | (refine aw_if rfl ?_ ?_ <;> intro hc <;> (first | replace hc := of_decide_eq_true hc | replace hc := of_decide_eq_false hc | replace hc := eq_of_beq hc | simp only [Bool.not_eq_true', Bool.not_eq_false', Bool.and_eq_true, Bool.or_eq_true, Bool.or_eq_false_iff, Bool.not_true, Bool.not_false, decide_eq_true_eq, decide_eq_false_iff_not, Bool.and_eq_false_imp, bne_iff_ne, ne_eq, beq_iff_eq, beq_eq_false_iff_ne, bne_eq_false_iff_eq, bne_self_eq_false, not_true_eq_false, eq_self, Bool.true_eq_false, Bool.false_eq_true] at hc | skip))
      | refine s_index1n tabOk rfl rfl rfl rfl (by omega) ?_
      | refine s_indexn tabOk rfl rfl rfl rfl (by omega) ?_
      | refine s_index1 tabOk rfl rfl rfl rfl (by omega) (by omega) ?_
      | refine sh_load tabOk (by assumption) rfl rfl rfl rfl (by repeat (first | exact List.Mem.head _ | apply List.Mem.tail)) (by rfl) (by rfl) ?_
      | refine sh_loada tabOk (by assumption) rfl rfl rfl rfl (by repeat (first | exact List.Mem.head _ | apply List.Mem.tail)) (by rfl) ?_
      | (refine sh_box (by assumption) rfl rfl rfl rfl rfl rfl ?_; intro _ _ _)
      | (refine sh_alloc tabOk (by assumption) rfl rfl rfl rfl rfl rfl ?_; intro _ _ _)
      | (refine sh_store tabOk (by assumption) rfl rfl rfl rfl rfl rfl (by repeat (first | exact Upd.here | apply Upd.there)) (by rfl) ?_; intro _ _)
      | (refine sh_lit tabOk (by assumption) rfl rfl rfl rfl rfl rfl rfl rfl rfl rfl rfl ?_; intro _ _ _)
      | refine sh_build tabOk rfl rfl rfl rfl rfl rfl ?_
      | refine rndh_ret ?_
      | refine rndh_exit ?_)
      refine retK_ret tabOk (congrArg Array.toList Try.results14) (by repeat (first | exact rv_nil | apply rv_tmp rfl rfl | apply rv_cellH (by assumption) rfl rfl rfl (by repeat (first | exact List.Mem.head _ | apply List.Mem.tail)) rfl)) ?_
      exact JoinH.bad (by simp [joinOk, hj]) (Hp.sub (by assumption) (by repeat (first | exact List.nil_sublist _ | refine List.Sublist.cons_cons _ ?_ | refine List.Sublist.cons _ ?_)))
    · simp only [hj, if_true]
      repeat' (first
      | refine s_pure tabOk rfl rfl rfl rfl ?_
      | refine aops_nil ?_
      | refine thn_normal ?_
      | refine aw_seq ?_
      | refine aw_reg ?_
      | refine s_pass rfl rfl rfl ?_
      | refine s_len tabOk rfl rfl rfl rfl ?_
      | refine aw_true rfl ?_
      | refine aw_false rfl ?_
      | refine aw_block ?_
      | refine aw_skip ?_
      | refine aw_exit ?_
      | refine blk_exit ?_
      | refine blk_exit_other rfl ?_
      | refine blk_normal ?_
      | refine thn_exit ?_
      | refine thn_ret ?_
      | refine blk_ret ?_
      | refine rnd_ret ?_
      | refine rnd_exit ?_
      | refine aw_ret ?_
      | refine s_arith tabOk rfl rfl rfl rfl (by simp only [InR]; omega) ?_
      | ((fail_if_success refine s_told rfl rfl ?_); refine s_part rfl rfl rfl ?_ ?_ <;> intro hc <;> (first | replace hc := of_decide_eq_true hc | replace hc := of_decide_eq_false hc | replace hc := eq_of_beq hc | simp only [Bool.not_eq_true', Bool.not_eq_false', Bool.and_eq_true, Bool.or_eq_true, Bool.or_eq_false_iff, Bool.not_true, Bool.not_false, decide_eq_true_eq, decide_eq_false_iff_not, Bool.and_eq_false_imp, bne_iff_ne, ne_eq, beq_iff_eq, beq_eq_false_iff_ne, bne_eq_false_iff_eq, bne_self_eq_false, not_true_eq_false, eq_self, Bool.true_eq_false, Bool.false_eq_true] at hc | skip))
      | (refine aw_if rfl ?_ ?_ <;> intro hc <;> (first | replace hc := of_decide_eq_true hc | replace hc := of_decide_eq_false hc | replace hc := eq_of_beq hc | simp only [Bool.not_eq_true', Bool.not_eq_false', Bool.and_eq_true, Bool.or_eq_true, Bool.or_eq_false_iff, Bool.not_true, Bool.not_false, decide_eq_true_eq, decide_eq_false_iff_not, Bool.and_eq_false_imp, bne_iff_ne, ne_eq, beq_iff_eq, beq_eq_false_iff_ne, bne_eq_false_iff_eq, bne_self_eq_false, not_true_eq_false, eq_self, Bool.true_eq_false, Bool.false_eq_true] at hc | skip))
      | refine s_index1n tabOk rfl rfl rfl rfl (by omega) ?_
      | refine s_indexn tabOk rfl rfl rfl rfl (by omega) ?_
      | refine s_index1 tabOk rfl rfl rfl rfl (by omega) (by omega) ?_
      | refine sh_load tabOk (by assumption) rfl rfl rfl rfl (by repeat (first | exact List.Mem.head _ | apply List.Mem.tail)) (by rfl) (by rfl) ?_
      | refine sh_loada tabOk (by assumption) rfl rfl rfl rfl (by repeat (first | exact List.Mem.head _ | apply List.Mem.tail)) (by rfl) ?_
      | (refine sh_box (by assumption) rfl rfl rfl rfl rfl rfl ?_; intro _ _ _)
      | (refine sh_alloc tabOk (by assumption) rfl rfl rfl rfl rfl rfl ?_; intro _ _ _)
      | (refine sh_store tabOk (by assumption) rfl rfl rfl rfl rfl rfl (by repeat (first | exact Upd.here | apply Upd.there)) (by rfl) ?_; intro _ _)
      | (refine sh_lit tabOk (by assumption) rfl rfl rfl rfl rfl rfl rfl rfl rfl rfl rfl ?_; intro _ _ _)
      | refine sh_build tabOk rfl rfl rfl rfl rfl rfl ?_
      | refine rndh_ret ?_
      | refine rndh_exit ?_)
      refine retK_ret tabOk (congrArg Array.toList Try.results14) (by repeat (first | exact rv_nil | apply rv_tmp rfl rfl | apply rv_cellH (by assumption) rfl rfl rfl (by repeat (first | exact List.Mem.head _ | apply List.Mem.tail)) rfl)) ?_
      exact JoinH.good (by simp [joinOk, hj, e1, e2, e3, e4]) (Hp.picks (by assumption) (by repeat (first | exact Picks.nil | (apply Picks.cons; (repeat (first | exact Pick.here | apply Pick.there))))))
theorem c_spec_JoinRivers (hB : B ≤ W.heap.size) (hv : RvS W p1 k1 p2 k2 p3 k3 r) (hs : r.small) (hv' : RvS W p4 k4 p5 k5 p6 k6 s) (hs' : s.small) (q : Int) :
    ACalls Try.prog B 12 [rvV p1 k1 p2 k2 p3 k3 r, rvV p4 k4 p5 k5 p6 k6 s, .int .i64 q] W (fun v W' => JoinH B W W' v r s q) := by
  have H0 : Hp B W W [] := Hp.new hB
  refine acalls_of Try.func12 rfl Try.ntmps12 (Nat.le_of_ble_eq_true rfl) ?_
  repeat' (first
      | refine s_pure tabOk rfl rfl rfl rfl ?_
      | refine aops_nil ?_
      | refine thn_normal ?_
      | refine aw_seq ?_
      | refine aw_reg ?_
      | refine s_pass rfl rfl rfl ?_
      | refine s_len tabOk rfl rfl rfl rfl ?_
      | refine aw_true rfl ?_
      | refine aw_false rfl ?_
      | refine aw_block ?_
      | refine aw_skip ?_
      | refine aw_exit ?_
      | refine blk_exit ?_
      | refine blk_exit_other rfl ?_
      | refine blk_normal ?_
      | refine thn_exit ?_
      | refine thn_ret ?_
      | refine blk_ret ?_
      | refine rnd_ret ?_
      | refine rnd_exit ?_
      | refine aw_ret ?_
      | refine s_arith tabOk rfl rfl rfl rfl (by simp only [InR]; omega) ?_
      | ((fail_if_success refine s_told rfl rfl ?_); refine s_part rfl rfl rfl ?_ ?_ <;> intro hc <;> (first | replace hc := of_decide_eq_true hc | replace hc := of_decide_eq_false hc | replace hc := eq_of_beq hc | simp only [Bool.not_eq_true', Bool.not_eq_false', Bool.and_eq_true, Bool.or_eq_true, Bool.or_eq_false_iff, Bool.not_true, Bool.not_false, decide_eq_true_eq, decide_eq_false_iff_not, Bool.and_eq_false_imp, bne_iff_ne, ne_eq, beq_iff_eq, beq_eq_false_iff_ne, bne_eq_false_iff_eq, bne_self_eq_false, not_true_eq_false, eq_self, Bool.true_eq_false, Bool.false_eq_true] at hc | skip))
      | (refine aw_if rfl ?_ ?_ <;> intro hc <;> (first | replace hc := of_decide_eq_true hc | replace hc := of_decide_eq_false hc | replace hc := eq_of_beq hc | simp only [Bool.not_eq_true', Bool.not_eq_false', Bool.and_eq_true, Bool.or_eq_true, Bool.or_eq_false_iff, Bool.not_true, Bool.not_false, decide_eq_true_eq, decide_eq_false_iff_not, Bool.and_eq_false_imp, bne_iff_ne, ne_eq, beq_iff_eq, beq_eq_false_iff_ne, bne_eq_false_iff_eq, bne_self_eq_false, not_true_eq_false, eq_self, Bool.true_eq_false, Bool.false_eq_true] at hc | skip))
      | refine s_index1n tabOk rfl rfl rfl rfl (by omega) ?_
      | refine s_indexn tabOk rfl rfl rfl rfl (by omega) ?_
      | refine s_index1 tabOk rfl rfl rfl rfl (by omega) (by omega) ?_
      | refine sh_load tabOk (by assumption) rfl rfl rfl rfl (by repeat (first | exact List.Mem.head _ | apply List.Mem.tail)) (by rfl) (by rfl) ?_
      | refine sh_loada tabOk (by assumption) rfl rfl rfl rfl (by repeat (first | exact List.Mem.head _ | apply List.Mem.tail)) (by rfl) ?_
      | (refine sh_box (by assumption) rfl rfl rfl rfl rfl rfl ?_; intro _ _ _)
      | (refine sh_alloc tabOk (by assumption) rfl rfl rfl rfl rfl rfl ?_; intro _ _ _)
      | (refine sh_store tabOk (by assumption) rfl rfl rfl rfl rfl rfl (by repeat (first | exact Upd.here | apply Upd.there)) (by rfl) ?_; intro _ _)
      | (refine sh_lit tabOk (by assumption) rfl rfl rfl rfl rfl rfl rfl rfl rfl rfl rfl ?_; intro _ _ _)
      | refine sh_build tabOk rfl rfl rfl rfl rfl rfl ?_
      | refine rndh_ret ?_
      | refine rndh_exit ?_)
  rename_i b3 X1 G1 b2 X2 G2 b1 X3 G3
  refine s_call rfl rfl rfl rfl ent58 (c_spec_l06Has G3.size (G3.ok _ (by repeat (first | exact List.Mem.head _ | apply List.Mem.tail))) (Hp.rvA G3 hv) hs q) ?_
  rintro _ _ ⟨rfl, rfl⟩
  generalize hb0 : (rvOk r && (decide (0 ≤ q) && decide (q ≤ (r.ds.length : Int) - 1))) = b0
  repeat' (first
      | refine s_pure tabOk rfl rfl rfl rfl ?_
      | refine aops_nil ?_
      | refine thn_normal ?_
      | refine aw_seq ?_
      | refine aw_reg ?_
      | refine s_pass rfl rfl rfl ?_
      | refine s_len tabOk rfl rfl rfl rfl ?_
      | refine aw_true rfl ?_
      | refine aw_false rfl ?_
      | refine aw_block ?_
      | refine aw_skip ?_
      | refine aw_exit ?_
      | refine blk_exit ?_
      | refine blk_exit_other rfl ?_
      | refine blk_normal ?_
      | refine thn_exit ?_
      | refine thn_ret ?_
      | refine blk_ret ?_
      | refine rnd_ret ?_
      | refine rnd_exit ?_
      | refine aw_ret ?_
      | refine s_arith tabOk rfl rfl rfl rfl (by simp only [InR]; omega) ?_
      | ((fail_if_success refine s_told rfl rfl ?_); refine s_part rfl rfl rfl ?_ ?_ <;> intro hc <;> (first | replace hc := of_decide_eq_true hc | replace hc := of_decide_eq_false hc | replace hc := eq_of_beq hc | simp only [Bool.not_eq_true', Bool.not_eq_false', Bool.and_eq_true, Bool.or_eq_true, Bool.or_eq_false_iff, Bool.not_true, Bool.not_false, decide_eq_true_eq, decide_eq_false_iff_not, Bool.and_eq_false_imp, bne_iff_ne, ne_eq, beq_iff_eq, beq_eq_false_iff_ne, bne_eq_false_iff_eq, bne_self_eq_false, not_true_eq_false, eq_self, Bool.true_eq_false, Bool.false_eq_true] at hc | skip))
      | (refine aw_if rfl ?_ ?_ <;> intro hc <;> (first | replace hc := of_decide_eq_true hc | replace hc := of_decide_eq_false hc | replace hc := eq_of_beq hc | simp only [Bool.not_eq_true', Bool.not_eq_false', Bool.and_eq_true, Bool.or_eq_true, Bool.or_eq_false_iff, Bool.not_true, Bool.not_false, decide_eq_true_eq, decide_eq_false_iff_not, Bool.and_eq_false_imp, bne_iff_ne, ne_eq, beq_iff_eq, beq_eq_false_iff_ne, bne_eq_false_iff_eq, bne_self_eq_false, not_true_eq_false, eq_self, Bool.true_eq_false, Bool.false_eq_true] at hc | skip))
      | refine s_index1n tabOk rfl rfl rfl rfl (by omega) ?_
      | refine s_indexn tabOk rfl rfl rfl rfl (by omega) ?_
      | refine s_index1 tabOk rfl rfl rfl rfl (by omega) (by omega) ?_
      | refine sh_load tabOk (by assumption) rfl rfl rfl rfl (by repeat (first | exact List.Mem.head _ | apply List.Mem.tail)) (by rfl) (by rfl) ?_
      | refine sh_loada tabOk (by assumption) rfl rfl rfl rfl (by repeat (first | exact List.Mem.head _ | apply List.Mem.tail)) (by rfl) ?_
      | (refine sh_box (by assumption) rfl rfl rfl rfl rfl rfl ?_; intro _ _ _)
      | (refine sh_alloc tabOk (by assumption) rfl rfl rfl rfl rfl rfl ?_; intro _ _ _)
      | (refine sh_store tabOk (by assumption) rfl rfl rfl rfl rfl rfl (by repeat (first | exact Upd.here | apply Upd.there)) (by rfl) ?_; intro _ _)
      | (refine sh_lit tabOk (by assumption) rfl rfl rfl rfl rfl rfl rfl rfl rfl rfl rfl ?_; intro _ _ _)
      | refine sh_build tabOk rfl rfl rfl rfl rfl rfl ?_
      | refine rndh_ret ?_
      | refine rndh_exit ?_)
  · refine retK_ret tabOk (congrArg Array.toList Try.results12) (by repeat (first | exact rv_nil | apply rv_tmp rfl rfl | apply rv_cellH (by assumption) rfl rfl rfl (by repeat (first | exact List.Mem.head _ | apply List.Mem.tail)) rfl)) ?_
    exact JoinH.bad (by unfold joinOk; rw [hb0, hc]; rfl) (Hp.sub (by assumption) (by repeat (first | exact List.nil_sublist _ | refine List.Sublist.cons_cons _ ?_ | refine List.Sublist.cons _ ?_)))
  have e0 := hb0.trans hc
  clear hc
  refine s_call rfl rfl rfl rfl ent59 (c_spec_l06Is G3.size (G3.ok _ (by repeat (first | exact List.Mem.head _ | apply List.Mem.tail))) (Hp.rvA G3 hv') hs') ?_
  rintro _ _ ⟨rfl, rfl⟩
  repeat' (first
      | refine s_pure tabOk rfl rfl rfl rfl ?_
      | refine aops_nil ?_
      | refine thn_normal ?_
      | refine aw_seq ?_
      | refine aw_reg ?_
      | refine s_pass rfl rfl rfl ?_
      | refine s_len tabOk rfl rfl rfl rfl ?_
      | refine aw_true rfl ?_
      | refine aw_false rfl ?_
      | refine aw_block ?_
      | refine aw_skip ?_
      | refine aw_exit ?_
      | refine blk_exit ?_
      | refine blk_exit_other rfl ?_
      | refine blk_normal ?_
      | refine thn_exit ?_
      | refine thn_ret ?_
      | refine blk_ret ?_
      | refine rnd_ret ?_
      | refine rnd_exit ?_
      | refine aw_ret ?_
      | refine s_arith tabOk rfl rfl rfl rfl (by simp only [InR]; omega) ?_
      | ((fail_if_success refine s_told rfl rfl ?_); refine s_part rfl rfl rfl ?_ ?_ <;> intro hc <;> (first | replace hc := of_decide_eq_true hc | replace hc := of_decide_eq_false hc | replace hc := eq_of_beq hc | simp only [Bool.not_eq_true', Bool.not_eq_false', Bool.and_eq_true, Bool.or_eq_true, Bool.or_eq_false_iff, Bool.not_true, Bool.not_false, decide_eq_true_eq, decide_eq_false_iff_not, Bool.and_eq_false_imp, bne_iff_ne, ne_eq, beq_iff_eq, beq_eq_false_iff_ne, bne_eq_false_iff_eq, bne_self_eq_false, not_true_eq_false, eq_self, Bool.true_eq_false, Bool.false_eq_true] at hc | skip))
      | (refine aw_if rfl ?_ ?_ <;> intro hc <;> (first | replace hc := of_decide_eq_true hc | replace hc := of_decide_eq_false hc | replace hc := eq_of_beq hc | simp only [Bool.not_eq_true', Bool.not_eq_false', Bool.and_eq_true, Bool.or_eq_true, Bool.or_eq_false_iff, Bool.not_true, Bool.not_false, decide_eq_true_eq, decide_eq_false_iff_not, Bool.and_eq_false_imp, bne_iff_ne, ne_eq, beq_iff_eq, beq_eq_false_iff_ne, bne_eq_false_iff_eq, bne_self_eq_false, not_true_eq_false, eq_self, Bool.true_eq_false, Bool.false_eq_true] at hc | skip))
      | refine s_index1n tabOk rfl rfl rfl rfl (by omega) ?_
      | refine s_indexn tabOk rfl rfl rfl rfl (by omega) ?_
      | refine s_index1 tabOk rfl rfl rfl rfl (by omega) (by omega) ?_
      | refine sh_load tabOk (by assumption) rfl rfl rfl rfl (by repeat (first | exact List.Mem.head _ | apply List.Mem.tail)) (by rfl) (by rfl) ?_
      | refine sh_loada tabOk (by assumption) rfl rfl rfl rfl (by repeat (first | exact List.Mem.head _ | apply List.Mem.tail)) (by rfl) ?_
      | (refine sh_box (by assumption) rfl rfl rfl rfl rfl rfl ?_; intro _ _ _)
      | (refine sh_alloc tabOk (by assumption) rfl rfl rfl rfl rfl rfl ?_; intro _ _ _)
      | (refine sh_store tabOk (by assumption) rfl rfl rfl rfl rfl rfl (by repeat (first | exact Upd.here | apply Upd.there)) (by rfl) ?_; intro _ _)
      | (refine sh_lit tabOk (by assumption) rfl rfl rfl rfl rfl rfl rfl rfl rfl rfl rfl ?_; intro _ _ _)
      | refine sh_build tabOk rfl rfl rfl rfl rfl rfl ?_
      | refine rndh_ret ?_
      | refine rndh_exit ?_)
  · refine retK_ret tabOk (congrArg Array.toList Try.results12) (by repeat (first | exact rv_nil | apply rv_tmp rfl rfl | apply rv_cellH (by assumption) rfl rfl rfl (by repeat (first | exact List.Mem.head _ | apply List.Mem.tail)) rfl)) ?_
    exact JoinH.bad (by unfold joinOk; rw [hc]; simp) (Hp.sub (by assumption) (by repeat (first | exact List.nil_sublist _ | refine List.Sublist.cons_cons _ ?_ | refine List.Sublist.cons _ ?_)))
  have e4 := hc
  clear hc
  simp only [Bool.and_eq_true, decide_eq_true_eq] at e0
  obtain ⟨e1, e2, e3⟩ := e0
  obtain ⟨n1, n2, n3, n4⟩ := rvOk_len e1
  obtain ⟨m1, m2, m3, m4⟩ := rvOk_len e4
  refine s_call rfl rfl rfl rfl ent60 (c_spec_l06Own G3.size (G3.ok _ (by repeat (first | exact List.Mem.head _ | apply List.Mem.tail))) (Hp.rvA G3 hv) hs) ?_
  rintro _ W4 ⟨q1, j1, q2, j2, q3, j3, rfl, g4⟩
  have H4 := G3.call3 g4
  repeat' (first
      | refine s_pure tabOk rfl rfl rfl rfl ?_
      | refine aops_nil ?_
      | refine thn_normal ?_
      | refine aw_seq ?_
      | refine aw_reg ?_
      | refine s_pass rfl rfl rfl ?_
      | refine s_len tabOk rfl rfl rfl rfl ?_
      | refine aw_true rfl ?_
      | refine aw_false rfl ?_
      | refine aw_block ?_
      | refine aw_skip ?_
      | refine aw_exit ?_
      | refine blk_exit ?_
      | refine blk_exit_other rfl ?_
      | refine blk_normal ?_
      | refine thn_exit ?_
      | refine thn_ret ?_
      | refine blk_ret ?_
      | refine rnd_ret ?_
      | refine rnd_exit ?_
      | refine aw_ret ?_
      | refine s_arith tabOk rfl rfl rfl rfl (by simp only [InR]; omega) ?_
      | ((fail_if_success refine s_told rfl rfl ?_); refine s_part rfl rfl rfl ?_ ?_ <;> intro hc <;> (first | replace hc := of_decide_eq_true hc | replace hc := of_decide_eq_false hc | replace hc := eq_of_beq hc | simp only [Bool.not_eq_true', Bool.not_eq_false', Bool.and_eq_true, Bool.or_eq_true, Bool.or_eq_false_iff, Bool.not_true, Bool.not_false, decide_eq_true_eq, decide_eq_false_iff_not, Bool.and_eq_false_imp, bne_iff_ne, ne_eq, beq_iff_eq, beq_eq_false_iff_ne, bne_eq_false_iff_eq, bne_self_eq_false, not_true_eq_false, eq_self, Bool.true_eq_false, Bool.false_eq_true] at hc | skip))
      | (refine aw_if rfl ?_ ?_ <;> intro hc <;> (first | replace hc := of_decide_eq_true hc | replace hc := of_decide_eq_false hc | replace hc := eq_of_beq hc | simp only [Bool.not_eq_true', Bool.not_eq_false', Bool.and_eq_true, Bool.or_eq_true, Bool.or_eq_false_iff, Bool.not_true, Bool.not_false, decide_eq_true_eq, decide_eq_false_iff_not, Bool.and_eq_false_imp, bne_iff_ne, ne_eq, beq_iff_eq, beq_eq_false_iff_ne, bne_eq_false_iff_eq, bne_self_eq_false, not_true_eq_false, eq_self, Bool.true_eq_false, Bool.false_eq_true] at hc | skip))
      | refine s_index1n tabOk rfl rfl rfl rfl (by omega) ?_
      | refine s_indexn tabOk rfl rfl rfl rfl (by omega) ?_
      | refine s_index1 tabOk rfl rfl rfl rfl (by omega) (by omega) ?_
      | refine sh_load tabOk (by assumption) rfl rfl rfl rfl (by repeat (first | exact List.Mem.head _ | apply List.Mem.tail)) (by rfl) (by rfl) ?_
      | refine sh_loada tabOk (by assumption) rfl rfl rfl rfl (by repeat (first | exact List.Mem.head _ | apply List.Mem.tail)) (by rfl) ?_
      | (refine sh_box (by assumption) rfl rfl rfl rfl rfl rfl ?_; intro _ _ _)
      | (refine sh_alloc tabOk (by assumption) rfl rfl rfl rfl rfl rfl ?_; intro _ _ _)
      | (refine sh_store tabOk (by assumption) rfl rfl rfl rfl rfl rfl (by repeat (first | exact Upd.here | apply Upd.there)) (by rfl) ?_; intro _ _)
      | (refine sh_lit tabOk (by assumption) rfl rfl rfl rfl rfl rfl rfl rfl rfl rfl rfl ?_; intro _ _ _)
      | refine sh_build tabOk rfl rfl rfl rfl rfl rfl ?_
      | refine rndh_ret ?_
      | refine rndh_exit ?_)
  rename_i b8 X4 G4 W5 H5
  obtain ⟨bs, os, rfl, hr⟩ := hv'.d.read (by omega)
  refine aw_loopH (fun x : Nat × Option Addr × Nat => [(10, .int .i64 x.1), (9, .int .i64 r.ds.length), (8, .pointer (some ⟨b8, 0, none⟩)), (4, .pointer (some ⟨b2, 0, none⟩)), (3, .pointer (some ⟨b3, 0, none⟩)), (2, .int .i64 q), (6, .pointer (some ⟨b1, 0, none⟩)), (7, .bool false)])
    (fun x => [.blk b8 [.slice x.2.1 (r.ds.length + x.1) x.2.2, .slice q2 r.dm.length j2, .slice q3 r.ws.length j3] 29, .row 2 1 (.slice x.2.1 (r.ds.length + x.1) x.2.2) (r.ds.length + x.1) (iC (joinTo r s q x.1)), .row 75 4 (.slice q2 r.dm.length j2) r.dm.length (dCs r.dm), .row 2 1 (.slice q3 r.ws.length j3) r.ws.length (iC r.ws), .blk b1 [.slice none 0 0, .slice none 0 0, .slice none 0 0] 29, .blk b2 (rvC (some ⟨bs, os, none⟩) k4 p5 k5 p6 k6 s) 29, .blk b3 (rvC p1 k1 p2 k2 p3 k3 r) 29])
    (fun x => x.1 ≤ s.ds.length) (fun x => s.ds.length - x.1) (0, q1, j1) (by omega) (by dsimp only; rw [joinTo_zero]; exact H5.picks (by repeat (first | exact Picks.nil | (apply Picks.cons; (repeat (first | exact Pick.here | apply Pick.there)))))) (by dsimp only; exact (by repeat (first | exact less_nil | refine less_cons rfl ?_))) ?_
  rintro ⟨i, ad, cp⟩ W6 hi H6
  dsimp only at hi H6 ⊢
  repeat' (first
      | refine s_pure tabOk rfl rfl rfl rfl ?_
      | refine aops_nil ?_
      | refine thn_normal ?_
      | refine aw_seq ?_
      | refine aw_reg ?_
      | refine s_pass rfl rfl rfl ?_
      | refine s_len tabOk rfl rfl rfl rfl ?_
      | refine aw_true rfl ?_
      | refine aw_false rfl ?_
      | refine aw_block ?_
      | refine aw_skip ?_
      | refine aw_exit ?_
      | refine blk_exit ?_
      | refine blk_exit_other rfl ?_
      | refine blk_normal ?_
      | refine thn_exit ?_
      | refine thn_ret ?_
      | refine blk_ret ?_
      | refine rnd_ret ?_
      | refine rnd_exit ?_
      | refine aw_ret ?_
      | refine s_arith tabOk rfl rfl rfl rfl (by simp only [InR]; omega) ?_
      | ((fail_if_success refine s_told rfl rfl ?_); refine s_part rfl rfl rfl ?_ ?_ <;> intro hc <;> (first | replace hc := of_decide_eq_true hc | replace hc := of_decide_eq_false hc | replace hc := eq_of_beq hc | simp only [Bool.not_eq_true', Bool.not_eq_false', Bool.and_eq_true, Bool.or_eq_true, Bool.or_eq_false_iff, Bool.not_true, Bool.not_false, decide_eq_true_eq, decide_eq_false_iff_not, Bool.and_eq_false_imp, bne_iff_ne, ne_eq, beq_iff_eq, beq_eq_false_iff_ne, bne_eq_false_iff_eq, bne_self_eq_false, not_true_eq_false, eq_self, Bool.true_eq_false, Bool.false_eq_true] at hc | skip))
      | (refine aw_if rfl ?_ ?_ <;> intro hc <;> (first | replace hc := of_decide_eq_true hc | replace hc := of_decide_eq_false hc | replace hc := eq_of_beq hc | simp only [Bool.not_eq_true', Bool.not_eq_false', Bool.and_eq_true, Bool.or_eq_true, Bool.or_eq_false_iff, Bool.not_true, Bool.not_false, decide_eq_true_eq, decide_eq_false_iff_not, Bool.and_eq_false_imp, bne_iff_ne, ne_eq, beq_iff_eq, beq_eq_false_iff_ne, bne_eq_false_iff_eq, bne_self_eq_false, not_true_eq_false, eq_self, Bool.true_eq_false, Bool.false_eq_true] at hc | skip))
      | refine s_index1n tabOk rfl rfl rfl rfl (by omega) ?_
      | refine s_indexn tabOk rfl rfl rfl rfl (by omega) ?_
      | refine s_index1 tabOk rfl rfl rfl rfl (by omega) (by omega) ?_
      | refine sh_load tabOk (by assumption) rfl rfl rfl rfl (by repeat (first | exact List.Mem.head _ | apply List.Mem.tail)) (by rfl) (by rfl) ?_
      | refine sh_loada tabOk (by assumption) rfl rfl rfl rfl (by repeat (first | exact List.Mem.head _ | apply List.Mem.tail)) (by rfl) ?_
      | (refine sh_box (by assumption) rfl rfl rfl rfl rfl rfl ?_; intro _ _ _)
      | (refine sh_alloc tabOk (by assumption) rfl rfl rfl rfl rfl rfl ?_; intro _ _ _)
      | (refine sh_store tabOk (by assumption) rfl rfl rfl rfl rfl rfl (by repeat (first | exact Upd.here | apply Upd.there)) (by rfl) ?_; intro _ _)
      | (refine sh_lit tabOk (by assumption) rfl rfl rfl rfl rfl rfl rfl rfl rfl rfl rfl ?_; intro _ _ _)
      | refine sh_build tabOk rfl rfl rfl rfl rfl rfl ?_
      | refine rndh_ret ?_
      | refine rndh_exit ?_)
  · refine sh_readT tabOk 0 rfl rfl rfl rfl (H6.rd hr) rfl (by omega) ?_
    have hb := rvOk_ds e4 (i := i) (by omega)
    repeat' (first
      | refine s_pure tabOk rfl rfl rfl rfl ?_
      | refine aops_nil ?_
      | refine thn_normal ?_
      | refine aw_seq ?_
      | refine aw_reg ?_
      | refine s_pass rfl rfl rfl ?_
      | refine s_len tabOk rfl rfl rfl rfl ?_
      | refine aw_true rfl ?_
      | refine aw_false rfl ?_
      | refine aw_block ?_
      | refine aw_skip ?_
      | refine aw_exit ?_
      | refine blk_exit ?_
      | refine blk_exit_other rfl ?_
      | refine blk_normal ?_
      | refine thn_exit ?_
      | refine thn_ret ?_
      | refine blk_ret ?_
      | refine rnd_ret ?_
      | refine rnd_exit ?_
      | refine aw_ret ?_
      | refine s_arith tabOk rfl rfl rfl rfl (by simp only [InR]; omega) ?_
      | ((fail_if_success refine s_told rfl rfl ?_); refine s_part rfl rfl rfl ?_ ?_ <;> intro hc <;> (first | replace hc := of_decide_eq_true hc | replace hc := of_decide_eq_false hc | replace hc := eq_of_beq hc | simp only [Bool.not_eq_true', Bool.not_eq_false', Bool.and_eq_true, Bool.or_eq_true, Bool.or_eq_false_iff, Bool.not_true, Bool.not_false, decide_eq_true_eq, decide_eq_false_iff_not, Bool.and_eq_false_imp, bne_iff_ne, ne_eq, beq_iff_eq, beq_eq_false_iff_ne, bne_eq_false_iff_eq, bne_self_eq_false, not_true_eq_false, eq_self, Bool.true_eq_false, Bool.false_eq_true] at hc | skip))
      | (refine aw_if rfl ?_ ?_ <;> intro hc <;> (first | replace hc := of_decide_eq_true hc | replace hc := of_decide_eq_false hc | replace hc := eq_of_beq hc | simp only [Bool.not_eq_true', Bool.not_eq_false', Bool.and_eq_true, Bool.or_eq_true, Bool.or_eq_false_iff, Bool.not_true, Bool.not_false, decide_eq_true_eq, decide_eq_false_iff_not, Bool.and_eq_false_imp, bne_iff_ne, ne_eq, beq_iff_eq, beq_eq_false_iff_ne, bne_eq_false_iff_eq, bne_self_eq_false, not_true_eq_false, eq_self, Bool.true_eq_false, Bool.false_eq_true] at hc | skip))
      | refine s_index1n tabOk rfl rfl rfl rfl (by omega) ?_
      | refine s_indexn tabOk rfl rfl rfl rfl (by omega) ?_
      | refine s_index1 tabOk rfl rfl rfl rfl (by omega) (by omega) ?_
      | refine sh_load tabOk (by assumption) rfl rfl rfl rfl (by repeat (first | exact List.Mem.head _ | apply List.Mem.tail)) (by rfl) (by rfl) ?_
      | refine sh_loada tabOk (by assumption) rfl rfl rfl rfl (by repeat (first | exact List.Mem.head _ | apply List.Mem.tail)) (by rfl) ?_
      | (refine sh_box (by assumption) rfl rfl rfl rfl rfl rfl ?_; intro _ _ _)
      | (refine sh_alloc tabOk (by assumption) rfl rfl rfl rfl rfl rfl ?_; intro _ _ _)
      | (refine sh_store tabOk (by assumption) rfl rfl rfl rfl rfl rfl (by repeat (first | exact Upd.here | apply Upd.there)) (by rfl) ?_; intro _ _)
      | (refine sh_lit tabOk (by assumption) rfl rfl rfl rfl rfl rfl rfl rfl rfl rfl rfl ?_; intro _ _ _)
      | refine sh_build tabOk rfl rfl rfl rfl rfl rfl ?_
      | refine rndh_ret ?_
      | refine rndh_exit ?_)
    · refine sh_readT tabOk 0 rfl rfl rfl rfl (H6.rd hr) rfl (by omega) ?_
      repeat' (first
      | refine s_pure tabOk rfl rfl rfl rfl ?_
      | refine aops_nil ?_
      | refine thn_normal ?_
      | refine aw_seq ?_
      | refine aw_reg ?_
      | refine s_pass rfl rfl rfl ?_
      | refine s_len tabOk rfl rfl rfl rfl ?_
      | refine aw_true rfl ?_
      | refine aw_false rfl ?_
      | refine aw_block ?_
      | refine aw_skip ?_
      | refine aw_exit ?_
      | refine blk_exit ?_
      | refine blk_exit_other rfl ?_
      | refine blk_normal ?_
      | refine thn_exit ?_
      | refine thn_ret ?_
      | refine blk_ret ?_
      | refine rnd_ret ?_
      | refine rnd_exit ?_
      | refine aw_ret ?_
      | refine s_arith tabOk rfl rfl rfl rfl (by simp only [InR]; omega) ?_
      | ((fail_if_success refine s_told rfl rfl ?_); refine s_part rfl rfl rfl ?_ ?_ <;> intro hc <;> (first | replace hc := of_decide_eq_true hc | replace hc := of_decide_eq_false hc | replace hc := eq_of_beq hc | simp only [Bool.not_eq_true', Bool.not_eq_false', Bool.and_eq_true, Bool.or_eq_true, Bool.or_eq_false_iff, Bool.not_true, Bool.not_false, decide_eq_true_eq, decide_eq_false_iff_not, Bool.and_eq_false_imp, bne_iff_ne, ne_eq, beq_iff_eq, beq_eq_false_iff_ne, bne_eq_false_iff_eq, bne_self_eq_false, not_true_eq_false, eq_self, Bool.true_eq_false, Bool.false_eq_true] at hc | skip))
      | (refine aw_if rfl ?_ ?_ <;> intro hc <;> (first | replace hc := of_decide_eq_true hc | replace hc := of_decide_eq_false hc | replace hc := eq_of_beq hc | simp only [Bool.not_eq_true', Bool.not_eq_false', Bool.and_eq_true, Bool.or_eq_true, Bool.or_eq_false_iff, Bool.not_true, Bool.not_false, decide_eq_true_eq, decide_eq_false_iff_not, Bool.and_eq_false_imp, bne_iff_ne, ne_eq, beq_iff_eq, beq_eq_false_iff_ne, bne_eq_false_iff_eq, bne_self_eq_false, not_true_eq_false, eq_self, Bool.true_eq_false, Bool.false_eq_true] at hc | skip))
      | refine s_index1n tabOk rfl rfl rfl rfl (by omega) ?_
      | refine s_indexn tabOk rfl rfl rfl rfl (by omega) ?_
      | refine s_index1 tabOk rfl rfl rfl rfl (by omega) (by omega) ?_
      | refine sh_load tabOk (by assumption) rfl rfl rfl rfl (by repeat (first | exact List.Mem.head _ | apply List.Mem.tail)) (by rfl) (by rfl) ?_
      | refine sh_loada tabOk (by assumption) rfl rfl rfl rfl (by repeat (first | exact List.Mem.head _ | apply List.Mem.tail)) (by rfl) ?_
      | (refine sh_box (by assumption) rfl rfl rfl rfl rfl rfl ?_; intro _ _ _)
      | (refine sh_alloc tabOk (by assumption) rfl rfl rfl rfl rfl rfl ?_; intro _ _ _)
      | (refine sh_store tabOk (by assumption) rfl rfl rfl rfl rfl rfl (by repeat (first | exact Upd.here | apply Upd.there)) (by rfl) ?_; intro _ _)
      | (refine sh_lit tabOk (by assumption) rfl rfl rfl rfl rfl rfl rfl rfl rfl rfl rfl ?_; intro _ _ _)
      | refine sh_build tabOk rfl rfl rfl rfl rfl rfl ?_
      | refine rndh_ret ?_
      | refine rndh_exit ?_)
      refine sh_push tabOk (by assumption) rfl rfl rfl rfl rfl rfl rfl rfl (fun _ _ => (by repeat (first | exact Upd.here | apply Upd.there))) (by omega) ?_
      intro a7 c7 W7 H7
      rw [← joinTo_hi (by omega) (by omega)] at H7
      repeat' (first
      | refine s_pure tabOk rfl rfl rfl rfl ?_
      | refine aops_nil ?_
      | refine thn_normal ?_
      | refine aw_seq ?_
      | refine aw_reg ?_
      | refine s_pass rfl rfl rfl ?_
      | refine s_len tabOk rfl rfl rfl rfl ?_
      | refine aw_true rfl ?_
      | refine aw_false rfl ?_
      | refine aw_block ?_
      | refine aw_skip ?_
      | refine aw_exit ?_
      | refine blk_exit ?_
      | refine blk_exit_other rfl ?_
      | refine blk_normal ?_
      | refine thn_exit ?_
      | refine thn_ret ?_
      | refine blk_ret ?_
      | refine rnd_ret ?_
      | refine rnd_exit ?_
      | refine aw_ret ?_
      | refine s_arith tabOk rfl rfl rfl rfl (by simp only [InR]; omega) ?_
      | ((fail_if_success refine s_told rfl rfl ?_); refine s_part rfl rfl rfl ?_ ?_ <;> intro hc <;> (first | replace hc := of_decide_eq_true hc | replace hc := of_decide_eq_false hc | replace hc := eq_of_beq hc | simp only [Bool.not_eq_true', Bool.not_eq_false', Bool.and_eq_true, Bool.or_eq_true, Bool.or_eq_false_iff, Bool.not_true, Bool.not_false, decide_eq_true_eq, decide_eq_false_iff_not, Bool.and_eq_false_imp, bne_iff_ne, ne_eq, beq_iff_eq, beq_eq_false_iff_ne, bne_eq_false_iff_eq, bne_self_eq_false, not_true_eq_false, eq_self, Bool.true_eq_false, Bool.false_eq_true] at hc | skip))
      | (refine aw_if rfl ?_ ?_ <;> intro hc <;> (first | replace hc := of_decide_eq_true hc | replace hc := of_decide_eq_false hc | replace hc := eq_of_beq hc | simp only [Bool.not_eq_true', Bool.not_eq_false', Bool.and_eq_true, Bool.or_eq_true, Bool.or_eq_false_iff, Bool.not_true, Bool.not_false, decide_eq_true_eq, decide_eq_false_iff_not, Bool.and_eq_false_imp, bne_iff_ne, ne_eq, beq_iff_eq, beq_eq_false_iff_ne, bne_eq_false_iff_eq, bne_self_eq_false, not_true_eq_false, eq_self, Bool.true_eq_false, Bool.false_eq_true] at hc | skip))
      | refine s_index1n tabOk rfl rfl rfl rfl (by omega) ?_
      | refine s_indexn tabOk rfl rfl rfl rfl (by omega) ?_
      | refine s_index1 tabOk rfl rfl rfl rfl (by omega) (by omega) ?_
      | refine sh_load tabOk (by assumption) rfl rfl rfl rfl (by repeat (first | exact List.Mem.head _ | apply List.Mem.tail)) (by rfl) (by rfl) ?_
      | refine sh_loada tabOk (by assumption) rfl rfl rfl rfl (by repeat (first | exact List.Mem.head _ | apply List.Mem.tail)) (by rfl) ?_
      | (refine sh_box (by assumption) rfl rfl rfl rfl rfl rfl ?_; intro _ _ _)
      | (refine sh_alloc tabOk (by assumption) rfl rfl rfl rfl rfl rfl ?_; intro _ _ _)
      | (refine sh_store tabOk (by assumption) rfl rfl rfl rfl rfl rfl (by repeat (first | exact Upd.here | apply Upd.there)) (by rfl) ?_; intro _ _)
      | (refine sh_lit tabOk (by assumption) rfl rfl rfl rfl rfl rfl rfl rfl rfl rfl rfl ?_; intro _ _ _)
      | refine sh_build tabOk rfl rfl rfl rfl rfl rfl ?_
      | refine rndh_ret ?_
      | refine rndh_exit ?_)
      exact rndh_next (i + 1, a7, c7) (by dsimp only; omega) (by dsimp only; omega) (by dsimp only; exact (by repeat (first | exact less_nil | refine less_cons rfl ?_))) (Hp.picks (by assumption) (by repeat (first | exact Picks.nil | (apply Picks.cons; (repeat (first | exact Pick.here | apply Pick.there))))))
    · refine sh_push tabOk (by assumption) rfl rfl rfl rfl rfl rfl rfl rfl (fun _ _ => (by repeat (first | exact Upd.here | apply Upd.there))) (by omega) ?_
      intro a7 c7 W7 H7
      rw [← joinTo_lo (by omega) (by omega)] at H7
      repeat' (first
      | refine s_pure tabOk rfl rfl rfl rfl ?_
      | refine aops_nil ?_
      | refine thn_normal ?_
      | refine aw_seq ?_
      | refine aw_reg ?_
      | refine s_pass rfl rfl rfl ?_
      | refine s_len tabOk rfl rfl rfl rfl ?_
      | refine aw_true rfl ?_
      | refine aw_false rfl ?_
      | refine aw_block ?_
      | refine aw_skip ?_
      | refine aw_exit ?_
      | refine blk_exit ?_
      | refine blk_exit_other rfl ?_
      | refine blk_normal ?_
      | refine thn_exit ?_
      | refine thn_ret ?_
      | refine blk_ret ?_
      | refine rnd_ret ?_
      | refine rnd_exit ?_
      | refine aw_ret ?_
      | refine s_arith tabOk rfl rfl rfl rfl (by simp only [InR]; omega) ?_
      | ((fail_if_success refine s_told rfl rfl ?_); refine s_part rfl rfl rfl ?_ ?_ <;> intro hc <;> (first | replace hc := of_decide_eq_true hc | replace hc := of_decide_eq_false hc | replace hc := eq_of_beq hc | simp only [Bool.not_eq_true', Bool.not_eq_false', Bool.and_eq_true, Bool.or_eq_true, Bool.or_eq_false_iff, Bool.not_true, Bool.not_false, decide_eq_true_eq, decide_eq_false_iff_not, Bool.and_eq_false_imp, bne_iff_ne, ne_eq, beq_iff_eq, beq_eq_false_iff_ne, bne_eq_false_iff_eq, bne_self_eq_false, not_true_eq_false, eq_self, Bool.true_eq_false, Bool.false_eq_true] at hc | skip))
      | (refine aw_if rfl ?_ ?_ <;> intro hc <;> (first | replace hc := of_decide_eq_true hc | replace hc := of_decide_eq_false hc | replace hc := eq_of_beq hc | simp only [Bool.not_eq_true', Bool.not_eq_false', Bool.and_eq_true, Bool.or_eq_true, Bool.or_eq_false_iff, Bool.not_true, Bool.not_false, decide_eq_true_eq, decide_eq_false_iff_not, Bool.and_eq_false_imp, bne_iff_ne, ne_eq, beq_iff_eq, beq_eq_false_iff_ne, bne_eq_false_iff_eq, bne_self_eq_false, not_true_eq_false, eq_self, Bool.true_eq_false, Bool.false_eq_true] at hc | skip))
      | refine s_index1n tabOk rfl rfl rfl rfl (by omega) ?_
      | refine s_indexn tabOk rfl rfl rfl rfl (by omega) ?_
      | refine s_index1 tabOk rfl rfl rfl rfl (by omega) (by omega) ?_
      | refine sh_load tabOk (by assumption) rfl rfl rfl rfl (by repeat (first | exact List.Mem.head _ | apply List.Mem.tail)) (by rfl) (by rfl) ?_
      | refine sh_loada tabOk (by assumption) rfl rfl rfl rfl (by repeat (first | exact List.Mem.head _ | apply List.Mem.tail)) (by rfl) ?_
      | (refine sh_box (by assumption) rfl rfl rfl rfl rfl rfl ?_; intro _ _ _)
      | (refine sh_alloc tabOk (by assumption) rfl rfl rfl rfl rfl rfl ?_; intro _ _ _)
      | (refine sh_store tabOk (by assumption) rfl rfl rfl rfl rfl rfl (by repeat (first | exact Upd.here | apply Upd.there)) (by rfl) ?_; intro _ _)
      | (refine sh_lit tabOk (by assumption) rfl rfl rfl rfl rfl rfl rfl rfl rfl rfl rfl ?_; intro _ _ _)
      | refine sh_build tabOk rfl rfl rfl rfl rfl rfl ?_
      | refine rndh_ret ?_
      | refine rndh_exit ?_)
      exact rndh_next (i + 1, a7, c7) (by dsimp only; omega) (by dsimp only; omega) (by dsimp only; exact (by repeat (first | exact less_nil | refine less_cons rfl ?_))) (Hp.picks (by assumption) (by repeat (first | exact Picks.nil | (apply Picks.cons; (repeat (first | exact Pick.here | apply Pick.there))))))
  have hil : i = s.ds.length := by omega
  subst hil
  have hlen := joinTo_len (r := r) (s := s) (q := q) (Nat.le_refl _)
  have el1 : r.ds.length + s.ds.length = (joinR r s q).ds.length := hlen.symm
  have el2 : r.dm.length + s.dm.length = (joinR r s q).dm.length := by simp [joinR]
  have el3 : r.ws.length + s.ws.length = (joinR r s q).ws.length := by simp [joinR]
  have hsm : (joinR r s q).small := ⟨by omega, by omega, by omega⟩
  rw [el1] at H6
  refine sh_append tabOk H6 rfl rfl rfl rfl rfl rfl rfl rfl rfl (fun _ _ => (by repeat (first | exact Upd.here | apply Upd.there))) (Hp.sldA H6 hv'.m) (by omega) ?_
  intro a7 c7 W7 H7
  rw [← List.flatMap_append, el2] at H7
  rw [el2]
  repeat' (first
      | refine s_pure tabOk rfl rfl rfl rfl ?_
      | refine aops_nil ?_
      | refine thn_normal ?_
      | refine aw_seq ?_
      | refine aw_reg ?_
      | refine s_pass rfl rfl rfl ?_
      | refine s_len tabOk rfl rfl rfl rfl ?_
      | refine aw_true rfl ?_
      | refine aw_false rfl ?_
      | refine aw_block ?_
      | refine aw_skip ?_
      | refine aw_exit ?_
      | refine blk_exit ?_
      | refine blk_exit_other rfl ?_
      | refine blk_normal ?_
      | refine thn_exit ?_
      | refine thn_ret ?_
      | refine blk_ret ?_
      | refine rnd_ret ?_
      | refine rnd_exit ?_
      | refine aw_ret ?_
      | refine s_arith tabOk rfl rfl rfl rfl (by simp only [InR]; omega) ?_
      | ((fail_if_success refine s_told rfl rfl ?_); refine s_part rfl rfl rfl ?_ ?_ <;> intro hc <;> (first | replace hc := of_decide_eq_true hc | replace hc := of_decide_eq_false hc | replace hc := eq_of_beq hc | simp only [Bool.not_eq_true', Bool.not_eq_false', Bool.and_eq_true, Bool.or_eq_true, Bool.or_eq_false_iff, Bool.not_true, Bool.not_false, decide_eq_true_eq, decide_eq_false_iff_not, Bool.and_eq_false_imp, bne_iff_ne, ne_eq, beq_iff_eq, beq_eq_false_iff_ne, bne_eq_false_iff_eq, bne_self_eq_false, not_true_eq_false, eq_self, Bool.true_eq_false, Bool.false_eq_true] at hc | skip))
      | (refine aw_if rfl ?_ ?_ <;> intro hc <;> (first | replace hc := of_decide_eq_true hc | replace hc := of_decide_eq_false hc | replace hc := eq_of_beq hc | simp only [Bool.not_eq_true', Bool.not_eq_false', Bool.and_eq_true, Bool.or_eq_true, Bool.or_eq_false_iff, Bool.not_true, Bool.not_false, decide_eq_true_eq, decide_eq_false_iff_not, Bool.and_eq_false_imp, bne_iff_ne, ne_eq, beq_iff_eq, beq_eq_false_iff_ne, bne_eq_false_iff_eq, bne_self_eq_false, not_true_eq_false, eq_self, Bool.true_eq_false, Bool.false_eq_true] at hc | skip))
      | refine s_index1n tabOk rfl rfl rfl rfl (by omega) ?_
      | refine s_indexn tabOk rfl rfl rfl rfl (by omega) ?_
      | refine s_index1 tabOk rfl rfl rfl rfl (by omega) (by omega) ?_
      | refine sh_load tabOk (by assumption) rfl rfl rfl rfl (by repeat (first | exact List.Mem.head _ | apply List.Mem.tail)) (by rfl) (by rfl) ?_
      | refine sh_loada tabOk (by assumption) rfl rfl rfl rfl (by repeat (first | exact List.Mem.head _ | apply List.Mem.tail)) (by rfl) ?_
      | (refine sh_box (by assumption) rfl rfl rfl rfl rfl rfl ?_; intro _ _ _)
      | (refine sh_alloc tabOk (by assumption) rfl rfl rfl rfl rfl rfl ?_; intro _ _ _)
      | (refine sh_store tabOk (by assumption) rfl rfl rfl rfl rfl rfl (by repeat (first | exact Upd.here | apply Upd.there)) (by rfl) ?_; intro _ _)
      | (refine sh_lit tabOk (by assumption) rfl rfl rfl rfl rfl rfl rfl rfl rfl rfl rfl ?_; intro _ _ _)
      | refine sh_build tabOk rfl rfl rfl rfl rfl rfl ?_
      | refine rndh_ret ?_
      | refine rndh_exit ?_)
  rename_i W8 H8
  refine sh_append tabOk H8 rfl rfl rfl rfl rfl rfl rfl rfl rfl (fun _ _ => (by repeat (first | exact Upd.here | apply Upd.there))) (H8.sliA hv'.w) (by omega) ?_
  intro a9 c9 W9 H9
  rw [← List.map_append, el3] at H9
  rw [el3]
  repeat' (first
      | refine s_pure tabOk rfl rfl rfl rfl ?_
      | refine aops_nil ?_
      | refine thn_normal ?_
      | refine aw_seq ?_
      | refine aw_reg ?_
      | refine s_pass rfl rfl rfl ?_
      | refine s_len tabOk rfl rfl rfl rfl ?_
      | refine aw_true rfl ?_
      | refine aw_false rfl ?_
      | refine aw_block ?_
      | refine aw_skip ?_
      | refine aw_exit ?_
      | refine blk_exit ?_
      | refine blk_exit_other rfl ?_
      | refine blk_normal ?_
      | refine thn_exit ?_
      | refine thn_ret ?_
      | refine blk_ret ?_
      | refine rnd_ret ?_
      | refine rnd_exit ?_
      | refine aw_ret ?_
      | refine s_arith tabOk rfl rfl rfl rfl (by simp only [InR]; omega) ?_
      | ((fail_if_success refine s_told rfl rfl ?_); refine s_part rfl rfl rfl ?_ ?_ <;> intro hc <;> (first | replace hc := of_decide_eq_true hc | replace hc := of_decide_eq_false hc | replace hc := eq_of_beq hc | simp only [Bool.not_eq_true', Bool.not_eq_false', Bool.and_eq_true, Bool.or_eq_true, Bool.or_eq_false_iff, Bool.not_true, Bool.not_false, decide_eq_true_eq, decide_eq_false_iff_not, Bool.and_eq_false_imp, bne_iff_ne, ne_eq, beq_iff_eq, beq_eq_false_iff_ne, bne_eq_false_iff_eq, bne_self_eq_false, not_true_eq_false, eq_self, Bool.true_eq_false, Bool.false_eq_true] at hc | skip))
      | (refine aw_if rfl ?_ ?_ <;> intro hc <;> (first | replace hc := of_decide_eq_true hc | replace hc := of_decide_eq_false hc | replace hc := eq_of_beq hc | simp only [Bool.not_eq_true', Bool.not_eq_false', Bool.and_eq_true, Bool.or_eq_true, Bool.or_eq_false_iff, Bool.not_true, Bool.not_false, decide_eq_true_eq, decide_eq_false_iff_not, Bool.and_eq_false_imp, bne_iff_ne, ne_eq, beq_iff_eq, beq_eq_false_iff_ne, bne_eq_false_iff_eq, bne_self_eq_false, not_true_eq_false, eq_self, Bool.true_eq_false, Bool.false_eq_true] at hc | skip))
      | refine s_index1n tabOk rfl rfl rfl rfl (by omega) ?_
      | refine s_indexn tabOk rfl rfl rfl rfl (by omega) ?_
      | refine s_index1 tabOk rfl rfl rfl rfl (by omega) (by omega) ?_
      | refine sh_load tabOk (by assumption) rfl rfl rfl rfl (by repeat (first | exact List.Mem.head _ | apply List.Mem.tail)) (by rfl) (by rfl) ?_
      | refine sh_loada tabOk (by assumption) rfl rfl rfl rfl (by repeat (first | exact List.Mem.head _ | apply List.Mem.tail)) (by rfl) ?_
      | (refine sh_box (by assumption) rfl rfl rfl rfl rfl rfl ?_; intro _ _ _)
      | (refine sh_alloc tabOk (by assumption) rfl rfl rfl rfl rfl rfl ?_; intro _ _ _)
      | (refine sh_store tabOk (by assumption) rfl rfl rfl rfl rfl rfl (by repeat (first | exact Upd.here | apply Upd.there)) (by rfl) ?_; intro _ _)
      | (refine sh_lit tabOk (by assumption) rfl rfl rfl rfl rfl rfl rfl rfl rfl rfl rfl ?_; intro _ _ _)
      | refine sh_build tabOk rfl rfl rfl rfl rfl rfl ?_
      | refine rndh_ret ?_
      | refine rndh_exit ?_)
  refine s_call rfl rfl rfl rfl ent61 (c_spec_l06Give (r := joinR r s q) (Hp.size (by assumption)) (Hp.rv (by assumption) (by repeat (first | exact List.Mem.head _ | apply List.Mem.tail)) (by repeat (first | exact List.Mem.head _ | apply List.Mem.tail)) (by repeat (first | exact List.Mem.head _ | apply List.Mem.tail))) hsm) ?_
  rintro _ W20 ⟨rfl, g20⟩
  have H20 := Hp.call0 (by assumption) g20
  cases hj : rvOk (joinR r s q)
  · simp only [hj, Bool.false_eq_true, if_false]
    repeat' (first
      | refine s_pure tabOk rfl rfl rfl rfl ?_
      | refine aops_nil ?_
      | refine thn_normal ?_
      | refine aw_seq ?_
      | refine aw_reg ?_
      | refine s_pass rfl rfl rfl ?_
      | refine s_len tabOk rfl rfl rfl rfl ?_
      | refine aw_true rfl ?_
      | refine aw_false rfl ?_
      | refine aw_block ?_
      | refine aw_skip ?_
      | refine aw_exit ?_
      | refine blk_exit ?_
      | refine blk_exit_other rfl ?_
      | refine blk_normal ?_
      | refine thn_exit ?_
      | refine thn_ret ?_
      | refine blk_ret ?_
      | refine rnd_ret ?_
      | refine rnd_exit ?_
      | refine aw_ret ?_
      | refine s_arith tabOk rfl rfl rfl rfl (by simp only [InR]; omega) ?_
      | ((fail_if_success refine s_told rfl rfl ?_); refine s_part rfl rfl rfl ?_ ?_ <;> intro hc <;> (first | replace hc := of_decide_eq_true hc | replace hc := of_decide_eq_false hc | replace hc := eq_of_beq hc | simp only [Bool.not_eq_true', Bool.not_eq_false', Bool.and_eq_true, Bool.or_eq_true, Bool.or_eq_false_iff, Bool.not_true, Bool.not_false, decide_eq_true_eq, decide_eq_false_iff_not, Bool.and_eq_false_imp, bne_iff_ne, ne_eq, beq_iff_eq, beq_eq_false_iff_ne, bne_eq_false_iff_eq, bne_self_eq_false, not_true_eq_false, eq_self, Bool.true_eq_false, Bool.false_eq_true] at hc | skip))
      | (refine aw_if rfl ?_ ?_ <;> intro hc <;> (first | replace hc := of_decide_eq_true hc | replace hc := of_decide_eq_false hc | replace hc := eq_of_beq hc | simp only [Bool.not_eq_true', Bool.not_eq_false', Bool.and_eq_true, Bool.or_eq_true, Bool.or_eq_false_iff, Bool.not_true, Bool.not_false, decide_eq_true_eq, decide_eq_false_iff_not, Bool.and_eq_false_imp, bne_iff_ne, ne_eq, beq_iff_eq, beq_eq_false_iff_ne, bne_eq_false_iff_eq, bne_self_eq_false, not_true_eq_false, eq_self, Bool.true_eq_false, Bool.false_eq_true] at hc | skip))
      | refine s_index1n tabOk rfl rfl rfl rfl (by omega) ?_
      | refine s_indexn tabOk rfl rfl rfl rfl (by omega) ?_
      | refine s_index1 tabOk rfl rfl rfl rfl (by omega) (by omega) ?_
      | refine sh_load tabOk (by assumption) rfl rfl rfl rfl (by repeat (first | exact List.Mem.head _ | apply List.Mem.tail)) (by rfl) (by rfl) ?_
      | refine sh_loada tabOk (by assumption) rfl rfl rfl rfl (by repeat (first | exact List.Mem.head _ | apply List.Mem.tail)) (by rfl) ?_
      | (refine sh_box (by assumption) rfl rfl rfl rfl rfl rfl ?_; intro _ _ _)
      | (refine sh_alloc tabOk (by assumption) rfl rfl rfl rfl rfl rfl ?_; intro _ _ _)
      | (refine sh_store tabOk (by assumption) rfl rfl rfl rfl rfl rfl (by repeat (first | exact Upd.here | apply Upd.there)) (by rfl) ?_; intro _ _)
      | (refine sh_lit tabOk (by assumption) rfl rfl rfl rfl rfl rfl rfl rfl rfl rfl rfl ?_; intro _ _ _)
      | refine sh_build tabOk rfl rfl rfl rfl rfl rfl ?_
      | refine rndh_ret ?_
      | refine rndh_exit ?_)
    refine retK_ret tabOk (congrArg Array.toList Try.results12) (by repeat (first | exact rv_nil | apply rv_tmp rfl rfl | apply rv_cellH (by assumption) rfl rfl rfl (by repeat (first | exact List.Mem.head _ | apply List.Mem.tail)) rfl)) ?_
    exact JoinH.bad (by simp [joinOk, hj]) (Hp.sub (by assumption) (by repeat (first | exact List.nil_sublist _ | refine List.Sublist.cons_cons _ ?_ | refine List.Sublist.cons _ ?_)))
  · simp only [hj, if_true]
    repeat' (first
      | refine s_pure tabOk rfl rfl rfl rfl ?_
      | refine aops_nil ?_
      | refine thn_normal ?_
      | refine aw_seq ?_
      | refine aw_reg ?_
      | refine s_pass rfl rfl rfl ?_
      | refine s_len tabOk rfl rfl rfl rfl ?_
      | refine aw_true rfl ?_
      | refine aw_false rfl ?_
      | refine aw_block ?_
      | refine aw_skip ?_
      | refine aw_exit ?_
      | refine blk_exit ?_
      | refine blk_exit_other rfl ?_
      | refine blk_normal ?_
      | refine thn_exit ?_
      | refine thn_ret ?_
      | refine blk_ret ?_
      | refine rnd_ret ?_
      | refine rnd_exit ?_
      | refine aw_ret ?_
      | refine s_arith tabOk rfl rfl rfl rfl (by simp only [InR]; omega) ?_
      | ((fail_if_success refine s_told rfl rfl ?_); refine s_part rfl rfl rfl ?_ ?_ <;> intro hc <;> (first | replace hc := of_decide_eq_true hc | replace hc := of_decide_eq_false hc | replace hc := eq_of_beq hc | simp only [Bool.not_eq_true', Bool.not_eq_false', Bool.and_eq_true, Bool.or_eq_true, Bool.or_eq_false_iff, Bool.not_true, Bool.not_false, decide_eq_true_eq, decide_eq_false_iff_not, Bool.and_eq_false_imp, bne_iff_ne, ne_eq, beq_iff_eq, beq_eq_false_iff_ne, bne_eq_false_iff_eq, bne_self_eq_false, not_true_eq_false, eq_self, Bool.true_eq_false, Bool.false_eq_true] at hc | skip))
      | (refine aw_if rfl ?_ ?_ <;> intro hc <;> (first | replace hc := of_decide_eq_true hc | replace hc := of_decide_eq_false hc | replace hc := eq_of_beq hc | simp only [Bool.not_eq_true', Bool.not_eq_false', Bool.and_eq_true, Bool.or_eq_true, Bool.or_eq_false_iff, Bool.not_true, Bool.not_false, decide_eq_true_eq, decide_eq_false_iff_not, Bool.and_eq_false_imp, bne_iff_ne, ne_eq, beq_iff_eq, beq_eq_false_iff_ne, bne_eq_false_iff_eq, bne_self_eq_false, not_true_eq_false, eq_self, Bool.true_eq_false, Bool.false_eq_true] at hc | skip))
      | refine s_index1n tabOk rfl rfl rfl rfl (by omega) ?_
      | refine s_indexn tabOk rfl rfl rfl rfl (by omega) ?_
      | refine s_index1 tabOk rfl rfl rfl rfl (by omega) (by omega) ?_
      | refine sh_load tabOk (by assumption) rfl rfl rfl rfl (by repeat (first | exact List.Mem.head _ | apply List.Mem.tail)) (by rfl) (by rfl) ?_
      | refine sh_loada tabOk (by assumption) rfl rfl rfl rfl (by repeat (first | exact List.Mem.head _ | apply List.Mem.tail)) (by rfl) ?_
      | (refine sh_box (by assumption) rfl rfl rfl rfl rfl rfl ?_; intro _ _ _)
      | (refine sh_alloc tabOk (by assumption) rfl rfl rfl rfl rfl rfl ?_; intro _ _ _)
      | (refine sh_store tabOk (by assumption) rfl rfl rfl rfl rfl rfl (by repeat (first | exact Upd.here | apply Upd.there)) (by rfl) ?_; intro _ _)
      | (refine sh_lit tabOk (by assumption) rfl rfl rfl rfl rfl rfl rfl rfl rfl rfl rfl ?_; intro _ _ _)
      | refine sh_build tabOk rfl rfl rfl rfl rfl rfl ?_
      | refine rndh_ret ?_
      | refine rndh_exit ?_)
    refine retK_ret tabOk (congrArg Array.toList Try.results12) (by repeat (first | exact rv_nil | apply rv_tmp rfl rfl | apply rv_cellH (by assumption) rfl rfl rfl (by repeat (first | exact List.Mem.head _ | apply List.Mem.tail)) rfl)) ?_
    exact JoinH.good (by simp [joinOk, hj, e1, e2, e3, e4]) (Hp.picks (by assumption) (by repeat (first | exact Picks.nil | (apply Picks.cons; (repeat (first | exact Pick.here | apply Pick.there))))))
end
end Go.Proofs.Ytgkmonllkfgbdaa
