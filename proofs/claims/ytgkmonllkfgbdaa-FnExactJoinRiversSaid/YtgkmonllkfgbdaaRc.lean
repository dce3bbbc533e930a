/- Dams and rivers in laws. -/
import Derived.Test.YtgkmonllkfgbdaaRb
namespace Go.Proofs.Ytgkmonllkfgbdaa
set_option linter.unusedSimpArgs false
set_option linter.unusedVariables false
open Go Cn Go.RowKit
def mkD (n : Int) (i : Nat) : List Dm := (List.range i).map fun j : Nat => ⟨n + 4 * (j : Int), n + 4 * (j : Int) + 1, n + 4 * (j : Int) + 2, n + 4 * (j : Int) + 3⟩
theorem mkD_len (n : Int) (i : Nat) : (mkD n i).length = i := by simp [mkD]
theorem mkD_succ (n : Int) (i : Nat) : mkD n (i + 1) = mkD n i ++ [⟨n + 4 * (i : Int), n + 4 * (i : Int) + 1, n + 4 * (i : Int) + 2, n + 4 * (i : Int) + 3⟩] := by simp [mkD, List.range_succ]
theorem mkD_get (n : Int) {i j : Nat} (h : j < i) : (mkD n i).getD j dm0 = ⟨n + 4 * (j : Int), n + 4 * (j : Int) + 1, n + 4 * (j : Int) + 2, n + 4 * (j : Int) + 3⟩ := by simp [mkD, List.getD_eq_getElem?_getD, h]
theorem get_set {α : Type} {xs : List α} {i : Nat} {y d : α} (h : i < xs.length) : (xs.set i y).getD i d = y := by simp [List.getD_eq_getElem?_getD, h]
section
variable {B : Nat} {A W W' : World} {L L' : List Res}
theorem hc_laws_markDamS {v : Value} {nn : Nat} {xs : List Dm} {n : Int} (H : Hp B A W L) (hU : Upd L (.row 75 4 v nn (dCs xs)) (.row 75 4 v nn (dCs (mkD n xs.length))) L') (hl : xs.length ≤ 1048576) (h0 : 0 ≤ n) (h1 : n ≤ 1099511627776) :
    ACalls Try.prog B 68 [v, .int .i64 n] W (fun r W' => r = .int .i64 (n + 4 * xs.length) ∧ Hp B A W' L') := by
  have hm := hU.mem
  obtain ⟨a, c, rfl, -⟩ := H.row_form hm
  have hnn : nn = xs.length := by have := H.row_len hm; rw [flat_len dC_len] at this; omega
  subst hnn
  obtain ⟨la, lb, rfl, rfl⟩ := hU.split
  refine acalls_of Try.func68 rfl Try.ntmps68 (Nat.le_of_ble_eq_true rfl) ?_
  repeat' (first
      | refine s_pure tabOk rfl rfl rfl rfl ?_
      | refine aops_nil ?_
      | refine thn_normal ?_
      | refine aw_seq ?_
      | refine aw_reg ?_
      | refine s_pass rfl rfl rfl ?_
      | refine s_len tabOk rfl rfl rfl rfl ?_
      | refine aw_true rfl ?_
      | refine aw_false rfl ?_
      | refine aw_block ?_
      | refine aw_skip ?_
      | refine aw_exit ?_
      | refine blk_exit ?_
      | refine blk_exit_other rfl ?_
      | refine blk_normal ?_
      | refine thn_exit ?_
      | refine thn_ret ?_
      | refine blk_ret ?_
      | refine rnd_ret ?_
      | refine rnd_exit ?_
      | refine aw_ret ?_
      | refine s_arith tabOk rfl rfl rfl rfl (by simp only [InR]; omega) ?_
      | ((fail_if_success refine s_told rfl rfl ?_); refine s_part rfl rfl rfl ?_ ?_ <;> intro hc <;> (first | replace hc := of_decide_eq_true hc | replace hc := of_decide_eq_false hc | replace hc := eq_of_beq hc | simp only [Bool.not_eq_true', Bool.not_eq_false', Bool.and_eq_true, Bool.or_eq_true, Bool.or_eq_false_iff, Bool.not_true, Bool.not_false, decide_eq_true_eq, decide_eq_false_iff_not, Bool.and_eq_false_imp, bne_iff_ne, ne_eq, beq_iff_eq, beq_eq_false_iff_ne, bne_eq_false_iff_eq, bne_self_eq_false, not_true_eq_false, eq_self, Bool.true_eq_false, Bool.false_eq_true] at hc | skip))
      | (refine aw_if rfl ?_ ?_ <;> intro hc <;> (first | replace hc := of_decide_eq_true hc | replace hc := of_decide_eq_false hc | replace hc := eq_of_beq hc | simp only [Bool.not_eq_true', Bool.not_eq_false', Bool.and_eq_true, Bool.or_eq_true, Bool.or_eq_false_iff, Bool.not_true, Bool.not_false, decide_eq_true_eq, decide_eq_false_iff_not, Bool.and_eq_false_imp, bne_iff_ne, ne_eq, beq_iff_eq, beq_eq_false_iff_ne, bne_eq_false_iff_eq, bne_self_eq_false, not_true_eq_false, eq_self, Bool.true_eq_false, Bool.false_eq_true] at hc | skip))
      | refine s_index1n tabOk rfl rfl rfl rfl (by omega) ?_
      | refine s_indexn tabOk rfl rfl rfl rfl (by omega) ?_
      | refine s_index1 tabOk rfl rfl rfl rfl (by omega) (by omega) ?_
      | refine sh_load tabOk (by assumption) rfl rfl rfl rfl (by repeat (first | exact List.Mem.head _ | apply List.Mem.tail)) (by rfl) (by rfl) ?_
      | refine sh_loada tabOk (by assumption) rfl rfl rfl rfl (by repeat (first | exact List.Mem.head _ | apply List.Mem.tail)) (by rfl) ?_
      | (refine sh_box (by assumption) rfl rfl rfl rfl rfl rfl ?_; intro _ _ _)
      | (refine sh_alloc tabOk (by assumption) rfl rfl rfl rfl rfl rfl ?_; intro _ _ _)
      | (refine sh_store tabOk (by assumption) rfl rfl rfl rfl rfl rfl (by repeat (first | exact Upd.here | apply Upd.there)) (by rfl) ?_; intro _ _)
      | (refine sh_lit tabOk (by assumption) rfl rfl rfl rfl rfl rfl rfl rfl rfl rfl rfl ?_; intro _ _ _)
      | refine sh_build tabOk rfl rfl rfl rfl rfl rfl ?_
      | refine rndh_ret ?_
      | refine rndh_exit ?_)
  refine aw_loopH (fun i : Nat => [(5, .int .i64 i), (1, .int .i64 (n + 4 * i)), (0, .slice a xs.length c)])
    (fun i => la ++ .row 75 4 (.slice a xs.length c) xs.length (dCs (mkD n i ++ xs.drop i)) :: lb) (fun i => i ≤ xs.length) (fun i => xs.length - i) 0 (by omega) (by simpa [mkD] using H) (by rw [show n + 4 * ((0 : Nat) : Int) = n by omega]; exact (by repeat (first | exact less_nil | refine less_cons rfl ?_))) ?_
  intro i W2 hi H2
  repeat' (first
      | refine s_pure tabOk rfl rfl rfl rfl ?_
      | refine aops_nil ?_
      | refine thn_normal ?_
      | refine aw_seq ?_
      | refine aw_reg ?_
      | refine s_pass rfl rfl rfl ?_
      | refine s_len tabOk rfl rfl rfl rfl ?_
      | refine aw_true rfl ?_
      | refine aw_false rfl ?_
      | refine aw_block ?_
      | refine aw_skip ?_
      | refine aw_exit ?_
      | refine blk_exit ?_
      | refine blk_exit_other rfl ?_
      | refine blk_normal ?_
      | refine thn_exit ?_
      | refine thn_ret ?_
      | refine blk_ret ?_
      | refine rnd_ret ?_
      | refine rnd_exit ?_
      | refine aw_ret ?_
      | refine s_arith tabOk rfl rfl rfl rfl (by simp only [InR]; omega) ?_
      | ((fail_if_success refine s_told rfl rfl ?_); refine s_part rfl rfl rfl ?_ ?_ <;> intro hc <;> (first | replace hc := of_decide_eq_true hc | replace hc := of_decide_eq_false hc | replace hc := eq_of_beq hc | simp only [Bool.not_eq_true', Bool.not_eq_false', Bool.and_eq_true, Bool.or_eq_true, Bool.or_eq_false_iff, Bool.not_true, Bool.not_false, decide_eq_true_eq, decide_eq_false_iff_not, Bool.and_eq_false_imp, bne_iff_ne, ne_eq, beq_iff_eq, beq_eq_false_iff_ne, bne_eq_false_iff_eq, bne_self_eq_false, not_true_eq_false, eq_self, Bool.true_eq_false, Bool.false_eq_true] at hc | skip))
      | (refine aw_if rfl ?_ ?_ <;> intro hc <;> (first | replace hc := of_decide_eq_true hc | replace hc := of_decide_eq_false hc | replace hc := eq_of_beq hc | simp only [Bool.not_eq_true', Bool.not_eq_false', Bool.and_eq_true, Bool.or_eq_true, Bool.or_eq_false_iff, Bool.not_true, Bool.not_false, decide_eq_true_eq, decide_eq_false_iff_not, Bool.and_eq_false_imp, bne_iff_ne, ne_eq, beq_iff_eq, beq_eq_false_iff_ne, bne_eq_false_iff_eq, bne_self_eq_false, not_true_eq_false, eq_self, Bool.true_eq_false, Bool.false_eq_true] at hc | skip))
      | refine s_index1n tabOk rfl rfl rfl rfl (by omega) ?_
      | refine s_indexn tabOk rfl rfl rfl rfl (by omega) ?_
      | refine s_index1 tabOk rfl rfl rfl rfl (by omega) (by omega) ?_
      | refine sh_load tabOk (by assumption) rfl rfl rfl rfl (by repeat (first | exact List.Mem.head _ | apply List.Mem.tail)) (by rfl) (by rfl) ?_
      | refine sh_loada tabOk (by assumption) rfl rfl rfl rfl (by repeat (first | exact List.Mem.head _ | apply List.Mem.tail)) (by rfl) ?_
      | (refine sh_box (by assumption) rfl rfl rfl rfl rfl rfl ?_; intro _ _ _)
      | (refine sh_alloc tabOk (by assumption) rfl rfl rfl rfl rfl rfl ?_; intro _ _ _)
      | (refine sh_store tabOk (by assumption) rfl rfl rfl rfl rfl rfl (by repeat (first | exact Upd.here | apply Upd.there)) (by rfl) ?_; intro _ _)
      | (refine sh_lit tabOk (by assumption) rfl rfl rfl rfl rfl rfl rfl rfl rfl rfl rfl ?_; intro _ _ _)
      | refine sh_build tabOk rfl rfl rfl rfl rfl rfl ?_
      | refine rndh_ret ?_
      | refine rndh_exit ?_)
  all_goals try (exfalso; omega)
  · obtain ⟨b, rfl⟩ := H2.row_ptr (List.mem_append_right _ (List.Mem.head _)) (by omega)
    have hlen : (mkD n i ++ xs.drop i).length = xs.length := by simp [mkD_len]; omega
    have hset := set_mark (mkD_len n i) (show i < xs.length by omega) (⟨n + 4 * (i : Int), n + 4 * (i : Int) + 1, n + 4 * (i : Int) + 2, n + 4 * (i : Int) + 3⟩ : Dm)
    rw [← mkD_succ] at hset
    generalize hys : mkD n i ++ xs.drop i = ys at *
    repeat' (first
      | refine s_pure tabOk rfl rfl rfl rfl ?_
      | refine aops_nil ?_
      | refine thn_normal ?_
      | refine aw_seq ?_
      | refine aw_reg ?_
      | refine s_pass rfl rfl rfl ?_
      | refine s_len tabOk rfl rfl rfl rfl ?_
      | refine aw_true rfl ?_
      | refine aw_false rfl ?_
      | refine aw_block ?_
      | refine aw_skip ?_
      | refine aw_exit ?_
      | refine blk_exit ?_
      | refine blk_exit_other rfl ?_
      | refine blk_normal ?_
      | refine thn_exit ?_
      | refine thn_ret ?_
      | refine blk_ret ?_
      | refine rnd_ret ?_
      | refine rnd_exit ?_
      | refine aw_ret ?_
      | refine s_arith tabOk rfl rfl rfl rfl (by simp only [InR]; omega) ?_
      | ((fail_if_success refine s_told rfl rfl ?_); refine s_part rfl rfl rfl ?_ ?_ <;> intro hc <;> (first | replace hc := of_decide_eq_true hc | replace hc := of_decide_eq_false hc | replace hc := eq_of_beq hc | simp only [Bool.not_eq_true', Bool.not_eq_false', Bool.and_eq_true, Bool.or_eq_true, Bool.or_eq_false_iff, Bool.not_true, Bool.not_false, decide_eq_true_eq, decide_eq_false_iff_not, Bool.and_eq_false_imp, bne_iff_ne, ne_eq, beq_iff_eq, beq_eq_false_iff_ne, bne_eq_false_iff_eq, bne_self_eq_false, not_true_eq_false, eq_self, Bool.true_eq_false, Bool.false_eq_true] at hc | skip))
      | (refine aw_if rfl ?_ ?_ <;> intro hc <;> (first | replace hc := of_decide_eq_true hc | replace hc := of_decide_eq_false hc | replace hc := eq_of_beq hc | simp only [Bool.not_eq_true', Bool.not_eq_false', Bool.and_eq_true, Bool.or_eq_true, Bool.or_eq_false_iff, Bool.not_true, Bool.not_false, decide_eq_true_eq, decide_eq_false_iff_not, Bool.and_eq_false_imp, bne_iff_ne, ne_eq, beq_iff_eq, beq_eq_false_iff_ne, bne_eq_false_iff_eq, bne_self_eq_false, not_true_eq_false, eq_self, Bool.true_eq_false, Bool.false_eq_true] at hc | skip))
      | refine s_index1n tabOk rfl rfl rfl rfl (by omega) ?_
      | refine s_indexn tabOk rfl rfl rfl rfl (by omega) ?_
      | refine s_index1 tabOk rfl rfl rfl rfl (by omega) (by omega) ?_
      | refine sh_load tabOk (by assumption) rfl rfl rfl rfl (by repeat (first | exact List.Mem.head _ | apply List.Mem.tail)) (by rfl) (by rfl) ?_
      | refine sh_loada tabOk (by assumption) rfl rfl rfl rfl (by repeat (first | exact List.Mem.head _ | apply List.Mem.tail)) (by rfl) ?_
      | (refine sh_box (by assumption) rfl rfl rfl rfl rfl rfl ?_; intro _ _ _)
      | (refine sh_alloc tabOk (by assumption) rfl rfl rfl rfl rfl rfl ?_; intro _ _ _)
      | (refine sh_store tabOk (by assumption) rfl rfl rfl rfl rfl rfl (by repeat (first | exact Upd.here | apply Upd.there)) (by rfl) ?_; intro _ _)
      | (refine sh_lit tabOk (by assumption) rfl rfl rfl rfl rfl rfl rfl rfl rfl rfl rfl ?_; intro _ _ _)
      | refine sh_build tabOk rfl rfl rfl rfl rfl rfl ?_
      | refine rndh_ret ?_
      | refine rndh_exit ?_)
    simp only [Nat.zero_add, Nat.add_zero]
    refine sh_storeF tabOk dC_len dm0 ⟨n + 4 * (i : Int), (ys.getD i dm0).dd, (ys.getD i dm0).ls, (ys.getD i dm0).nw⟩ (q := 0) H2 rfl rfl rfl rfl rfl rfl rfl rfl (upd_mid _ _) (by omega) ?_
    intro W3 H3
    repeat' (first
      | refine s_pure tabOk rfl rfl rfl rfl ?_
      | refine aops_nil ?_
      | refine thn_normal ?_
      | refine aw_seq ?_
      | refine aw_reg ?_
      | refine s_pass rfl rfl rfl ?_
      | refine s_len tabOk rfl rfl rfl rfl ?_
      | refine aw_true rfl ?_
      | refine aw_false rfl ?_
      | refine aw_block ?_
      | refine aw_skip ?_
      | refine aw_exit ?_
      | refine blk_exit ?_
      | refine blk_exit_other rfl ?_
      | refine blk_normal ?_
      | refine thn_exit ?_
      | refine thn_ret ?_
      | refine blk_ret ?_
      | refine rnd_ret ?_
      | refine rnd_exit ?_
      | refine aw_ret ?_
      | refine s_arith tabOk rfl rfl rfl rfl (by simp only [InR]; omega) ?_
      | ((fail_if_success refine s_told rfl rfl ?_); refine s_part rfl rfl rfl ?_ ?_ <;> intro hc <;> (first | replace hc := of_decide_eq_true hc | replace hc := of_decide_eq_false hc | replace hc := eq_of_beq hc | simp only [Bool.not_eq_true', Bool.not_eq_false', Bool.and_eq_true, Bool.or_eq_true, Bool.or_eq_false_iff, Bool.not_true, Bool.not_false, decide_eq_true_eq, decide_eq_false_iff_not, Bool.and_eq_false_imp, bne_iff_ne, ne_eq, beq_iff_eq, beq_eq_false_iff_ne, bne_eq_false_iff_eq, bne_self_eq_false, not_true_eq_false, eq_self, Bool.true_eq_false, Bool.false_eq_true] at hc | skip))
      | (refine aw_if rfl ?_ ?_ <;> intro hc <;> (first | replace hc := of_decide_eq_true hc | replace hc := of_decide_eq_false hc | replace hc := eq_of_beq hc | simp only [Bool.not_eq_true', Bool.not_eq_false', Bool.and_eq_true, Bool.or_eq_true, Bool.or_eq_false_iff, Bool.not_true, Bool.not_false, decide_eq_true_eq, decide_eq_false_iff_not, Bool.and_eq_false_imp, bne_iff_ne, ne_eq, beq_iff_eq, beq_eq_false_iff_ne, bne_eq_false_iff_eq, bne_self_eq_false, not_true_eq_false, eq_self, Bool.true_eq_false, Bool.false_eq_true] at hc | skip))
      | refine s_index1n tabOk rfl rfl rfl rfl (by omega) ?_
      | refine s_indexn tabOk rfl rfl rfl rfl (by omega) ?_
      | refine s_index1 tabOk rfl rfl rfl rfl (by omega) (by omega) ?_
      | refine sh_load tabOk (by assumption) rfl rfl rfl rfl (by repeat (first | exact List.Mem.head _ | apply List.Mem.tail)) (by rfl) (by rfl) ?_
      | refine sh_loada tabOk (by assumption) rfl rfl rfl rfl (by repeat (first | exact List.Mem.head _ | apply List.Mem.tail)) (by rfl) ?_
      | (refine sh_box (by assumption) rfl rfl rfl rfl rfl rfl ?_; intro _ _ _)
      | (refine sh_alloc tabOk (by assumption) rfl rfl rfl rfl rfl rfl ?_; intro _ _ _)
      | (refine sh_store tabOk (by assumption) rfl rfl rfl rfl rfl rfl (by repeat (first | exact Upd.here | apply Upd.there)) (by rfl) ?_; intro _ _)
      | (refine sh_lit tabOk (by assumption) rfl rfl rfl rfl rfl rfl rfl rfl rfl rfl rfl ?_; intro _ _ _)
      | refine sh_build tabOk rfl rfl rfl rfl rfl rfl ?_
      | refine rndh_ret ?_
      | refine rndh_exit ?_)
    simp only [Nat.zero_add, Nat.add_zero]
    refine sh_storeF tabOk dC_len dm0 ⟨n + 4 * (i : Int), n + 4 * (i : Int) + 1, (ys.getD i dm0).ls, (ys.getD i dm0).nw⟩ (q := 1) H3 rfl rfl rfl rfl rfl rfl rfl (by rw [get_set (by omega)]; rfl) (upd_mid _ _) (by simp; omega) ?_
    intro W4 H4
    rw [List.set_set] at H4
    repeat' (first
      | refine s_pure tabOk rfl rfl rfl rfl ?_
      | refine aops_nil ?_
      | refine thn_normal ?_
      | refine aw_seq ?_
      | refine aw_reg ?_
      | refine s_pass rfl rfl rfl ?_
      | refine s_len tabOk rfl rfl rfl rfl ?_
      | refine aw_true rfl ?_
      | refine aw_false rfl ?_
      | refine aw_block ?_
      | refine aw_skip ?_
      | refine aw_exit ?_
      | refine blk_exit ?_
      | refine blk_exit_other rfl ?_
      | refine blk_normal ?_
      | refine thn_exit ?_
      | refine thn_ret ?_
      | refine blk_ret ?_
      | refine rnd_ret ?_
      | refine rnd_exit ?_
      | refine aw_ret ?_
      | refine s_arith tabOk rfl rfl rfl rfl (by simp only [InR]; omega) ?_
      | ((fail_if_success refine s_told rfl rfl ?_); refine s_part rfl rfl rfl ?_ ?_ <;> intro hc <;> (first | replace hc := of_decide_eq_true hc | replace hc := of_decide_eq_false hc | replace hc := eq_of_beq hc | simp only [Bool.not_eq_true', Bool.not_eq_false', Bool.and_eq_true, Bool.or_eq_true, Bool.or_eq_false_iff, Bool.not_true, Bool.not_false, decide_eq_true_eq, decide_eq_false_iff_not, Bool.and_eq_false_imp, bne_iff_ne, ne_eq, beq_iff_eq, beq_eq_false_iff_ne, bne_eq_false_iff_eq, bne_self_eq_false, not_true_eq_false, eq_self, Bool.true_eq_false, Bool.false_eq_true] at hc | skip))
      | (refine aw_if rfl ?_ ?_ <;> intro hc <;> (first | replace hc := of_decide_eq_true hc | replace hc := of_decide_eq_false hc | replace hc := eq_of_beq hc | simp only [Bool.not_eq_true', Bool.not_eq_false', Bool.and_eq_true, Bool.or_eq_true, Bool.or_eq_false_iff, Bool.not_true, Bool.not_false, decide_eq_true_eq, decide_eq_false_iff_not, Bool.and_eq_false_imp, bne_iff_ne, ne_eq, beq_iff_eq, beq_eq_false_iff_ne, bne_eq_false_iff_eq, bne_self_eq_false, not_true_eq_false, eq_self, Bool.true_eq_false, Bool.false_eq_true] at hc | skip))
      | refine s_index1n tabOk rfl rfl rfl rfl (by omega) ?_
      | refine s_indexn tabOk rfl rfl rfl rfl (by omega) ?_
      | refine s_index1 tabOk rfl rfl rfl rfl (by omega) (by omega) ?_
      | refine sh_load tabOk (by assumption) rfl rfl rfl rfl (by repeat (first | exact List.Mem.head _ | apply List.Mem.tail)) (by rfl) (by rfl) ?_
      | refine sh_loada tabOk (by assumption) rfl rfl rfl rfl (by repeat (first | exact List.Mem.head _ | apply List.Mem.tail)) (by rfl) ?_
      | (refine sh_box (by assumption) rfl rfl rfl rfl rfl rfl ?_; intro _ _ _)
      | (refine sh_alloc tabOk (by assumption) rfl rfl rfl rfl rfl rfl ?_; intro _ _ _)
      | (refine sh_store tabOk (by assumption) rfl rfl rfl rfl rfl rfl (by repeat (first | exact Upd.here | apply Upd.there)) (by rfl) ?_; intro _ _)
      | (refine sh_lit tabOk (by assumption) rfl rfl rfl rfl rfl rfl rfl rfl rfl rfl rfl ?_; intro _ _ _)
      | refine sh_build tabOk rfl rfl rfl rfl rfl rfl ?_
      | refine rndh_ret ?_
      | refine rndh_exit ?_)
    simp only [Nat.zero_add, Nat.add_zero]
    refine sh_storeF tabOk dC_len dm0 ⟨n + 4 * (i : Int), n + 4 * (i : Int) + 1, n + 4 * (i : Int) + 1 + 1, (ys.getD i dm0).nw⟩ (q := 2) H4 rfl rfl rfl rfl rfl rfl rfl (by rw [get_set (by omega)]; rfl) (upd_mid _ _) (by simp; omega) ?_
    intro W5 H5
    rw [List.set_set] at H5
    repeat' (first
      | refine s_pure tabOk rfl rfl rfl rfl ?_
      | refine aops_nil ?_
      | refine thn_normal ?_
      | refine aw_seq ?_
      | refine aw_reg ?_
      | refine s_pass rfl rfl rfl ?_
      | refine s_len tabOk rfl rfl rfl rfl ?_
      | refine aw_true rfl ?_
      | refine aw_false rfl ?_
      | refine aw_block ?_
      | refine aw_skip ?_
      | refine aw_exit ?_
      | refine blk_exit ?_
      | refine blk_exit_other rfl ?_
      | refine blk_normal ?_
      | refine thn_exit ?_
      | refine thn_ret ?_
      | refine blk_ret ?_
      | refine rnd_ret ?_
      | refine rnd_exit ?_
      | refine aw_ret ?_
      | refine s_arith tabOk rfl rfl rfl rfl (by simp only [InR]; omega) ?_
      | ((fail_if_success refine s_told rfl rfl ?_); refine s_part rfl rfl rfl ?_ ?_ <;> intro hc <;> (first | replace hc := of_decide_eq_true hc | replace hc := of_decide_eq_false hc | replace hc := eq_of_beq hc | simp only [Bool.not_eq_true', Bool.not_eq_false', Bool.and_eq_true, Bool.or_eq_true, Bool.or_eq_false_iff, Bool.not_true, Bool.not_false, decide_eq_true_eq, decide_eq_false_iff_not, Bool.and_eq_false_imp, bne_iff_ne, ne_eq, beq_iff_eq, beq_eq_false_iff_ne, bne_eq_false_iff_eq, bne_self_eq_false, not_true_eq_false, eq_self, Bool.true_eq_false, Bool.false_eq_true] at hc | skip))
      | (refine aw_if rfl ?_ ?_ <;> intro hc <;> (first | replace hc := of_decide_eq_true hc | replace hc := of_decide_eq_false hc | replace hc := eq_of_beq hc | simp only [Bool.not_eq_true', Bool.not_eq_false', Bool.and_eq_true, Bool.or_eq_true, Bool.or_eq_false_iff, Bool.not_true, Bool.not_false, decide_eq_true_eq, decide_eq_false_iff_not, Bool.and_eq_false_imp, bne_iff_ne, ne_eq, beq_iff_eq, beq_eq_false_iff_ne, bne_eq_false_iff_eq, bne_self_eq_false, not_true_eq_false, eq_self, Bool.true_eq_false, Bool.false_eq_true] at hc | skip))
      | refine s_index1n tabOk rfl rfl rfl rfl (by omega) ?_
      | refine s_indexn tabOk rfl rfl rfl rfl (by omega) ?_
      | refine s_index1 tabOk rfl rfl rfl rfl (by omega) (by omega) ?_
      | refine sh_load tabOk (by assumption) rfl rfl rfl rfl (by repeat (first | exact List.Mem.head _ | apply List.Mem.tail)) (by rfl) (by rfl) ?_
      | refine sh_loada tabOk (by assumption) rfl rfl rfl rfl (by repeat (first | exact List.Mem.head _ | apply List.Mem.tail)) (by rfl) ?_
      | (refine sh_box (by assumption) rfl rfl rfl rfl rfl rfl ?_; intro _ _ _)
      | (refine sh_alloc tabOk (by assumption) rfl rfl rfl rfl rfl rfl ?_; intro _ _ _)
      | (refine sh_store tabOk (by assumption) rfl rfl rfl rfl rfl rfl (by repeat (first | exact Upd.here | apply Upd.there)) (by rfl) ?_; intro _ _)
      | (refine sh_lit tabOk (by assumption) rfl rfl rfl rfl rfl rfl rfl rfl rfl rfl rfl ?_; intro _ _ _)
      | refine sh_build tabOk rfl rfl rfl rfl rfl rfl ?_
      | refine rndh_ret ?_
      | refine rndh_exit ?_)
    simp only [Nat.zero_add, Nat.add_zero]
    refine sh_storeF tabOk dC_len dm0 ⟨n + 4 * (i : Int), n + 4 * (i : Int) + 1, n + 4 * (i : Int) + 1 + 1, n + 4 * (i : Int) + 1 + 1 + 1⟩ (q := 3) H5 rfl rfl rfl rfl rfl rfl rfl (by rw [get_set (by omega)]; rfl) (upd_mid _ _) (by simp; omega) ?_
    intro W6 H6
    rw [List.set_set, show n + 4 * (i : Int) + 1 + 1 + 1 = n + 4 * (i : Int) + 3 by omega, show n + 4 * (i : Int) + 1 + 1 = n + 4 * (i : Int) + 2 by omega, hset] at H6
    repeat' (first
      | refine s_pure tabOk rfl rfl rfl rfl ?_
      | refine aops_nil ?_
      | refine thn_normal ?_
      | refine aw_seq ?_
      | refine aw_reg ?_
      | refine s_pass rfl rfl rfl ?_
      | refine s_len tabOk rfl rfl rfl rfl ?_
      | refine aw_true rfl ?_
      | refine aw_false rfl ?_
      | refine aw_block ?_
      | refine aw_skip ?_
      | refine aw_exit ?_
      | refine blk_exit ?_
      | refine blk_exit_other rfl ?_
      | refine blk_normal ?_
      | refine thn_exit ?_
      | refine thn_ret ?_
      | refine blk_ret ?_
      | refine rnd_ret ?_
      | refine rnd_exit ?_
      | refine aw_ret ?_
      | refine s_arith tabOk rfl rfl rfl rfl (by simp only [InR]; omega) ?_
      | ((fail_if_success refine s_told rfl rfl ?_); refine s_part rfl rfl rfl ?_ ?_ <;> intro hc <;> (first | replace hc := of_decide_eq_true hc | replace hc := of_decide_eq_false hc | replace hc := eq_of_beq hc | simp only [Bool.not_eq_true', Bool.not_eq_false', Bool.and_eq_true, Bool.or_eq_true, Bool.or_eq_false_iff, Bool.not_true, Bool.not_false, decide_eq_true_eq, decide_eq_false_iff_not, Bool.and_eq_false_imp, bne_iff_ne, ne_eq, beq_iff_eq, beq_eq_false_iff_ne, bne_eq_false_iff_eq, bne_self_eq_false, not_true_eq_false, eq_self, Bool.true_eq_false, Bool.false_eq_true] at hc | skip))
      | (refine aw_if rfl ?_ ?_ <;> intro hc <;> (first | replace hc := of_decide_eq_true hc | replace hc := of_decide_eq_false hc | replace hc := eq_of_beq hc | simp only [Bool.not_eq_true', Bool.not_eq_false', Bool.and_eq_true, Bool.or_eq_true, Bool.or_eq_false_iff, Bool.not_true, Bool.not_false, decide_eq_true_eq, decide_eq_false_iff_not, Bool.and_eq_false_imp, bne_iff_ne, ne_eq, beq_iff_eq, beq_eq_false_iff_ne, bne_eq_false_iff_eq, bne_self_eq_false, not_true_eq_false, eq_self, Bool.true_eq_false, Bool.false_eq_true] at hc | skip))
      | refine s_index1n tabOk rfl rfl rfl rfl (by omega) ?_
      | refine s_indexn tabOk rfl rfl rfl rfl (by omega) ?_
      | refine s_index1 tabOk rfl rfl rfl rfl (by omega) (by omega) ?_
      | refine sh_load tabOk (by assumption) rfl rfl rfl rfl (by repeat (first | exact List.Mem.head _ | apply List.Mem.tail)) (by rfl) (by rfl) ?_
      | refine sh_loada tabOk (by assumption) rfl rfl rfl rfl (by repeat (first | exact List.Mem.head _ | apply List.Mem.tail)) (by rfl) ?_
      | (refine sh_box (by assumption) rfl rfl rfl rfl rfl rfl ?_; intro _ _ _)
      | (refine sh_alloc tabOk (by assumption) rfl rfl rfl rfl rfl rfl ?_; intro _ _ _)
      | (refine sh_store tabOk (by assumption) rfl rfl rfl rfl rfl rfl (by repeat (first | exact Upd.here | apply Upd.there)) (by rfl) ?_; intro _ _)
      | (refine sh_lit tabOk (by assumption) rfl rfl rfl rfl rfl rfl rfl rfl rfl rfl rfl ?_; intro _ _ _)
      | refine sh_build tabOk rfl rfl rfl rfl rfl rfl ?_
      | refine rndh_ret ?_
      | refine rndh_exit ?_)
    refine rndh_next (i + 1) (by omega) (by omega) (by rw [show n + 4 * ((i + 1 : Nat) : Int) = n + 4 * i + 1 + 1 + 1 + 1 by omega]; exact (by repeat (first | exact less_nil | refine less_cons rfl ?_))) H6
  · have : i = xs.length := by omega
    subst this
    refine retK_ret tabOk (congrArg Array.toList Try.results68) (rv_tmp rfl rfl rv_nil) ?_
    refine ⟨rfl, ?_⟩
    simpa using H2
theorem hc_heldD {v : Value} {nn m : Nat} {n : Int} (H : Hp B A W L) (hm : Res.row 75 4 v nn (dCs (mkD n m)) ∈ L) (hl : m ≤ 1048576) (h0 : 0 ≤ n) (h1 : n ≤ 1099511627776) :
    ACalls Try.prog B 69 [v, .int .i64 n] W (fun r W' => r = .int .i64 (n + 4 * m) ∧ W' = W) := by
  have hv := Hp.sld H hm
  have hx : ∀ j, j < m → (mkD n m).getD j dm0 = ⟨n + 4 * (j : Int), n + 4 * (j : Int) + 1, n + 4 * (j : Int) + 2, n + 4 * (j : Int) + 3⟩ := fun j hj => mkD_get n hj
  have hll := mkD_len n m
  generalize mkD n m = xs at *
  subst hll
  obtain ⟨a, c, rfl, -⟩ := hv.form
  refine acalls_of Try.func69 rfl Try.ntmps69 (Nat.le_of_ble_eq_true rfl) ?_
  repeat' (first
      | refine s_pure tabOk rfl rfl rfl rfl ?_
      | refine aops_nil ?_
      | refine thn_normal ?_
      | refine aw_seq ?_
      | refine aw_reg ?_
      | refine s_pass rfl rfl rfl ?_
      | refine s_len tabOk rfl rfl rfl rfl ?_
      | refine aw_true rfl ?_
      | refine aw_false rfl ?_
      | refine aw_block ?_
      | refine aw_skip ?_
      | refine aw_exit ?_
      | refine blk_exit ?_
      | refine blk_exit_other rfl ?_
      | refine blk_normal ?_
      | refine thn_exit ?_
      | refine thn_ret ?_
      | refine blk_ret ?_
      | refine rnd_ret ?_
      | refine rnd_exit ?_
      | refine aw_ret ?_
      | refine s_arith tabOk rfl rfl rfl rfl (by simp only [InR]; omega) ?_
      | ((fail_if_success refine s_told rfl rfl ?_); refine s_part rfl rfl rfl ?_ ?_ <;> intro hc <;> (first | replace hc := of_decide_eq_true hc | replace hc := of_decide_eq_false hc | replace hc := eq_of_beq hc | simp only [Bool.not_eq_true', Bool.not_eq_false', Bool.and_eq_true, Bool.or_eq_true, Bool.or_eq_false_iff, Bool.not_true, Bool.not_false, decide_eq_true_eq, decide_eq_false_iff_not, Bool.and_eq_false_imp, bne_iff_ne, ne_eq, beq_iff_eq, beq_eq_false_iff_ne, bne_eq_false_iff_eq, bne_self_eq_false, not_true_eq_false, eq_self, Bool.true_eq_false, Bool.false_eq_true] at hc | skip))
      | (refine aw_if rfl ?_ ?_ <;> intro hc <;> (first | replace hc := of_decide_eq_true hc | replace hc := of_decide_eq_false hc | replace hc := eq_of_beq hc | simp only [Bool.not_eq_true', Bool.not_eq_false', Bool.and_eq_true, Bool.or_eq_true, Bool.or_eq_false_iff, Bool.not_true, Bool.not_false, decide_eq_true_eq, decide_eq_false_iff_not, Bool.and_eq_false_imp, bne_iff_ne, ne_eq, beq_iff_eq, beq_eq_false_iff_ne, bne_eq_false_iff_eq, bne_self_eq_false, not_true_eq_false, eq_self, Bool.true_eq_false, Bool.false_eq_true] at hc | skip))
      | refine s_index1n tabOk rfl rfl rfl rfl (by omega) ?_
      | refine s_indexn tabOk rfl rfl rfl rfl (by omega) ?_
      | refine s_index1 tabOk rfl rfl rfl rfl (by omega) (by omega) ?_
      | refine sh_load tabOk (by assumption) rfl rfl rfl rfl (by repeat (first | exact List.Mem.head _ | apply List.Mem.tail)) (by rfl) (by rfl) ?_
      | refine sh_loada tabOk (by assumption) rfl rfl rfl rfl (by repeat (first | exact List.Mem.head _ | apply List.Mem.tail)) (by rfl) ?_
      | (refine sh_box (by assumption) rfl rfl rfl rfl rfl rfl ?_; intro _ _ _)
      | (refine sh_alloc tabOk (by assumption) rfl rfl rfl rfl rfl rfl ?_; intro _ _ _)
      | (refine sh_store tabOk (by assumption) rfl rfl rfl rfl rfl rfl (by repeat (first | exact Upd.here | apply Upd.there)) (by rfl) ?_; intro _ _)
      | (refine sh_lit tabOk (by assumption) rfl rfl rfl rfl rfl rfl rfl rfl rfl rfl rfl ?_; intro _ _ _)
      | refine sh_build tabOk rfl rfl rfl rfl rfl rfl ?_
      | refine rndh_ret ?_
      | refine rndh_exit ?_)
  refine aw_loop (fun i : Nat => [(5, .int .i64 i), (1, .int .i64 (n + 4 * i)), (0, .slice a xs.length c)]) (fun _ => W) (fun i => i ≤ xs.length) (fun i => xs.length - i) 0 (by omega) (by rw [show n + 4 * ((0 : Nat) : Int) = n by omega]; exact (by repeat (first | exact less_nil | refine less_cons rfl ?_))) rfl ?_
  intro i hi
  repeat' (first
      | refine s_pure tabOk rfl rfl rfl rfl ?_
      | refine aops_nil ?_
      | refine thn_normal ?_
      | refine aw_seq ?_
      | refine aw_reg ?_
      | refine s_pass rfl rfl rfl ?_
      | refine s_len tabOk rfl rfl rfl rfl ?_
      | refine aw_true rfl ?_
      | refine aw_false rfl ?_
      | refine aw_block ?_
      | refine aw_skip ?_
      | refine aw_exit ?_
      | refine blk_exit ?_
      | refine blk_exit_other rfl ?_
      | refine blk_normal ?_
      | refine thn_exit ?_
      | refine thn_ret ?_
      | refine blk_ret ?_
      | refine rnd_ret ?_
      | refine rnd_exit ?_
      | refine aw_ret ?_
      | refine s_arith tabOk rfl rfl rfl rfl (by simp only [InR]; omega) ?_
      | ((fail_if_success refine s_told rfl rfl ?_); refine s_part rfl rfl rfl ?_ ?_ <;> intro hc <;> (first | replace hc := of_decide_eq_true hc | replace hc := of_decide_eq_false hc | replace hc := eq_of_beq hc | simp only [Bool.not_eq_true', Bool.not_eq_false', Bool.and_eq_true, Bool.or_eq_true, Bool.or_eq_false_iff, Bool.not_true, Bool.not_false, decide_eq_true_eq, decide_eq_false_iff_not, Bool.and_eq_false_imp, bne_iff_ne, ne_eq, beq_iff_eq, beq_eq_false_iff_ne, bne_eq_false_iff_eq, bne_self_eq_false, not_true_eq_false, eq_self, Bool.true_eq_false, Bool.false_eq_true] at hc | skip))
      | (refine aw_if rfl ?_ ?_ <;> intro hc <;> (first | replace hc := of_decide_eq_true hc | replace hc := of_decide_eq_false hc | replace hc := eq_of_beq hc | simp only [Bool.not_eq_true', Bool.not_eq_false', Bool.and_eq_true, Bool.or_eq_true, Bool.or_eq_false_iff, Bool.not_true, Bool.not_false, decide_eq_true_eq, decide_eq_false_iff_not, Bool.and_eq_false_imp, bne_iff_ne, ne_eq, beq_iff_eq, beq_eq_false_iff_ne, bne_eq_false_iff_eq, bne_self_eq_false, not_true_eq_false, eq_self, Bool.true_eq_false, Bool.false_eq_true] at hc | skip))
      | refine s_index1n tabOk rfl rfl rfl rfl (by omega) ?_
      | refine s_indexn tabOk rfl rfl rfl rfl (by omega) ?_
      | refine s_index1 tabOk rfl rfl rfl rfl (by omega) (by omega) ?_
      | refine sh_load tabOk (by assumption) rfl rfl rfl rfl (by repeat (first | exact List.Mem.head _ | apply List.Mem.tail)) (by rfl) (by rfl) ?_
      | refine sh_loada tabOk (by assumption) rfl rfl rfl rfl (by repeat (first | exact List.Mem.head _ | apply List.Mem.tail)) (by rfl) ?_
      | (refine sh_box (by assumption) rfl rfl rfl rfl rfl rfl ?_; intro _ _ _)
      | (refine sh_alloc tabOk (by assumption) rfl rfl rfl rfl rfl rfl ?_; intro _ _ _)
      | (refine sh_store tabOk (by assumption) rfl rfl rfl rfl rfl rfl (by repeat (first | exact Upd.here | apply Upd.there)) (by rfl) ?_; intro _ _)
      | (refine sh_lit tabOk (by assumption) rfl rfl rfl rfl rfl rfl rfl rfl rfl rfl rfl ?_; intro _ _ _)
      | refine sh_build tabOk rfl rfl rfl rfl rfl rfl ?_
      | refine rndh_ret ?_
      | refine rndh_exit ?_)
  all_goals try (exfalso; omega)
  · obtain ⟨b, off, rfl, hr⟩ := hv.read (by omega)
    have he := hx i (by omega)
    repeat' (first
      | refine s_pure tabOk rfl rfl rfl rfl ?_
      | refine aops_nil ?_
      | refine thn_normal ?_
      | refine aw_seq ?_
      | refine aw_reg ?_
      | refine s_pass rfl rfl rfl ?_
      | refine s_len tabOk rfl rfl rfl rfl ?_
      | refine aw_true rfl ?_
      | refine aw_false rfl ?_
      | refine aw_block ?_
      | refine aw_skip ?_
      | refine aw_exit ?_
      | refine blk_exit ?_
      | refine blk_exit_other rfl ?_
      | refine blk_normal ?_
      | refine thn_exit ?_
      | refine thn_ret ?_
      | refine blk_ret ?_
      | refine rnd_ret ?_
      | refine rnd_exit ?_
      | refine aw_ret ?_
      | refine s_arith tabOk rfl rfl rfl rfl (by simp only [InR]; omega) ?_
      | ((fail_if_success refine s_told rfl rfl ?_); refine s_part rfl rfl rfl ?_ ?_ <;> intro hc <;> (first | replace hc := of_decide_eq_true hc | replace hc := of_decide_eq_false hc | replace hc := eq_of_beq hc | simp only [Bool.not_eq_true', Bool.not_eq_false', Bool.and_eq_true, Bool.or_eq_true, Bool.or_eq_false_iff, Bool.not_true, Bool.not_false, decide_eq_true_eq, decide_eq_false_iff_not, Bool.and_eq_false_imp, bne_iff_ne, ne_eq, beq_iff_eq, beq_eq_false_iff_ne, bne_eq_false_iff_eq, bne_self_eq_false, not_true_eq_false, eq_self, Bool.true_eq_false, Bool.false_eq_true] at hc | skip))
      | (refine aw_if rfl ?_ ?_ <;> intro hc <;> (first | replace hc := of_decide_eq_true hc | replace hc := of_decide_eq_false hc | replace hc := eq_of_beq hc | simp only [Bool.not_eq_true', Bool.not_eq_false', Bool.and_eq_true, Bool.or_eq_true, Bool.or_eq_false_iff, Bool.not_true, Bool.not_false, decide_eq_true_eq, decide_eq_false_iff_not, Bool.and_eq_false_imp, bne_iff_ne, ne_eq, beq_iff_eq, beq_eq_false_iff_ne, bne_eq_false_iff_eq, bne_self_eq_false, not_true_eq_false, eq_self, Bool.true_eq_false, Bool.false_eq_true] at hc | skip))
      | refine s_index1n tabOk rfl rfl rfl rfl (by omega) ?_
      | refine s_indexn tabOk rfl rfl rfl rfl (by omega) ?_
      | refine s_index1 tabOk rfl rfl rfl rfl (by omega) (by omega) ?_
      | refine sh_load tabOk (by assumption) rfl rfl rfl rfl (by repeat (first | exact List.Mem.head _ | apply List.Mem.tail)) (by rfl) (by rfl) ?_
      | refine sh_loada tabOk (by assumption) rfl rfl rfl rfl (by repeat (first | exact List.Mem.head _ | apply List.Mem.tail)) (by rfl) ?_
      | (refine sh_box (by assumption) rfl rfl rfl rfl rfl rfl ?_; intro _ _ _)
      | (refine sh_alloc tabOk (by assumption) rfl rfl rfl rfl rfl rfl ?_; intro _ _ _)
      | (refine sh_store tabOk (by assumption) rfl rfl rfl rfl rfl rfl (by repeat (first | exact Upd.here | apply Upd.there)) (by rfl) ?_; intro _ _)
      | (refine sh_lit tabOk (by assumption) rfl rfl rfl rfl rfl rfl rfl rfl rfl rfl rfl ?_; intro _ _ _)
      | refine sh_build tabOk rfl rfl rfl rfl rfl rfl ?_
      | refine rndh_ret ?_
      | refine rndh_exit ?_)
    refine sh_readF tabOk dC_len dm0 (m := 0) (v := .int .i64 (n + 4 * (i : Int))) rfl rfl rfl rfl hr rfl (by omega) rfl (by rw [he]; rfl) ?_
    repeat' (first
      | refine s_pure tabOk rfl rfl rfl rfl ?_
      | refine aops_nil ?_
      | refine thn_normal ?_
      | refine aw_seq ?_
      | refine aw_reg ?_
      | refine s_pass rfl rfl rfl ?_
      | refine s_len tabOk rfl rfl rfl rfl ?_
      | refine aw_true rfl ?_
      | refine aw_false rfl ?_
      | refine aw_block ?_
      | refine aw_skip ?_
      | refine aw_exit ?_
      | refine blk_exit ?_
      | refine blk_exit_other rfl ?_
      | refine blk_normal ?_
      | refine thn_exit ?_
      | refine thn_ret ?_
      | refine blk_ret ?_
      | refine rnd_ret ?_
      | refine rnd_exit ?_
      | refine aw_ret ?_
      | refine s_arith tabOk rfl rfl rfl rfl (by simp only [InR]; omega) ?_
      | ((fail_if_success refine s_told rfl rfl ?_); refine s_part rfl rfl rfl ?_ ?_ <;> intro hc <;> (first | replace hc := of_decide_eq_true hc | replace hc := of_decide_eq_false hc | replace hc := eq_of_beq hc | simp only [Bool.not_eq_true', Bool.not_eq_false', Bool.and_eq_true, Bool.or_eq_true, Bool.or_eq_false_iff, Bool.not_true, Bool.not_false, decide_eq_true_eq, decide_eq_false_iff_not, Bool.and_eq_false_imp, bne_iff_ne, ne_eq, beq_iff_eq, beq_eq_false_iff_ne, bne_eq_false_iff_eq, bne_self_eq_false, not_true_eq_false, eq_self, Bool.true_eq_false, Bool.false_eq_true] at hc | skip))
      | (refine aw_if rfl ?_ ?_ <;> intro hc <;> (first | replace hc := of_decide_eq_true hc | replace hc := of_decide_eq_false hc | replace hc := eq_of_beq hc | simp only [Bool.not_eq_true', Bool.not_eq_false', Bool.and_eq_true, Bool.or_eq_true, Bool.or_eq_false_iff, Bool.not_true, Bool.not_false, decide_eq_true_eq, decide_eq_false_iff_not, Bool.and_eq_false_imp, bne_iff_ne, ne_eq, beq_iff_eq, beq_eq_false_iff_ne, bne_eq_false_iff_eq, bne_self_eq_false, not_true_eq_false, eq_self, Bool.true_eq_false, Bool.false_eq_true] at hc | skip))
      | refine s_index1n tabOk rfl rfl rfl rfl (by omega) ?_
      | refine s_indexn tabOk rfl rfl rfl rfl (by omega) ?_
      | refine s_index1 tabOk rfl rfl rfl rfl (by omega) (by omega) ?_
      | refine sh_load tabOk (by assumption) rfl rfl rfl rfl (by repeat (first | exact List.Mem.head _ | apply List.Mem.tail)) (by rfl) (by rfl) ?_
      | refine sh_loada tabOk (by assumption) rfl rfl rfl rfl (by repeat (first | exact List.Mem.head _ | apply List.Mem.tail)) (by rfl) ?_
      | (refine sh_box (by assumption) rfl rfl rfl rfl rfl rfl ?_; intro _ _ _)
      | (refine sh_alloc tabOk (by assumption) rfl rfl rfl rfl rfl rfl ?_; intro _ _ _)
      | (refine sh_store tabOk (by assumption) rfl rfl rfl rfl rfl rfl (by repeat (first | exact Upd.here | apply Upd.there)) (by rfl) ?_; intro _ _)
      | (refine sh_lit tabOk (by assumption) rfl rfl rfl rfl rfl rfl rfl rfl rfl rfl rfl ?_; intro _ _ _)
      | refine sh_build tabOk rfl rfl rfl rfl rfl rfl ?_
      | refine rndh_ret ?_
      | refine rndh_exit ?_)
    refine sh_readF tabOk dC_len dm0 (m := 1) (v := .int .i64 (n + 4 * (i : Int) + 1)) rfl rfl rfl rfl hr rfl (by omega) rfl (by rw [he]; rfl) ?_
    repeat' (first
      | refine s_pure tabOk rfl rfl rfl rfl ?_
      | refine aops_nil ?_
      | refine thn_normal ?_
      | refine aw_seq ?_
      | refine aw_reg ?_
      | refine s_pass rfl rfl rfl ?_
      | refine s_len tabOk rfl rfl rfl rfl ?_
      | refine aw_true rfl ?_
      | refine aw_false rfl ?_
      | refine aw_block ?_
      | refine aw_skip ?_
      | refine aw_exit ?_
      | refine blk_exit ?_
      | refine blk_exit_other rfl ?_
      | refine blk_normal ?_
      | refine thn_exit ?_
      | refine thn_ret ?_
      | refine blk_ret ?_
      | refine rnd_ret ?_
      | refine rnd_exit ?_
      | refine aw_ret ?_
      | refine s_arith tabOk rfl rfl rfl rfl (by simp only [InR]; omega) ?_
      | ((fail_if_success refine s_told rfl rfl ?_); refine s_part rfl rfl rfl ?_ ?_ <;> intro hc <;> (first | replace hc := of_decide_eq_true hc | replace hc := of_decide_eq_false hc | replace hc := eq_of_beq hc | simp only [Bool.not_eq_true', Bool.not_eq_false', Bool.and_eq_true, Bool.or_eq_true, Bool.or_eq_false_iff, Bool.not_true, Bool.not_false, decide_eq_true_eq, decide_eq_false_iff_not, Bool.and_eq_false_imp, bne_iff_ne, ne_eq, beq_iff_eq, beq_eq_false_iff_ne, bne_eq_false_iff_eq, bne_self_eq_false, not_true_eq_false, eq_self, Bool.true_eq_false, Bool.false_eq_true] at hc | skip))
      | (refine aw_if rfl ?_ ?_ <;> intro hc <;> (first | replace hc := of_decide_eq_true hc | replace hc := of_decide_eq_false hc | replace hc := eq_of_beq hc | simp only [Bool.not_eq_true', Bool.not_eq_false', Bool.and_eq_true, Bool.or_eq_true, Bool.or_eq_false_iff, Bool.not_true, Bool.not_false, decide_eq_true_eq, decide_eq_false_iff_not, Bool.and_eq_false_imp, bne_iff_ne, ne_eq, beq_iff_eq, beq_eq_false_iff_ne, bne_eq_false_iff_eq, bne_self_eq_false, not_true_eq_false, eq_self, Bool.true_eq_false, Bool.false_eq_true] at hc | skip))
      | refine s_index1n tabOk rfl rfl rfl rfl (by omega) ?_
      | refine s_indexn tabOk rfl rfl rfl rfl (by omega) ?_
      | refine s_index1 tabOk rfl rfl rfl rfl (by omega) (by omega) ?_
      | refine sh_load tabOk (by assumption) rfl rfl rfl rfl (by repeat (first | exact List.Mem.head _ | apply List.Mem.tail)) (by rfl) (by rfl) ?_
      | refine sh_loada tabOk (by assumption) rfl rfl rfl rfl (by repeat (first | exact List.Mem.head _ | apply List.Mem.tail)) (by rfl) ?_
      | (refine sh_box (by assumption) rfl rfl rfl rfl rfl rfl ?_; intro _ _ _)
      | (refine sh_alloc tabOk (by assumption) rfl rfl rfl rfl rfl rfl ?_; intro _ _ _)
      | (refine sh_store tabOk (by assumption) rfl rfl rfl rfl rfl rfl (by repeat (first | exact Upd.here | apply Upd.there)) (by rfl) ?_; intro _ _)
      | (refine sh_lit tabOk (by assumption) rfl rfl rfl rfl rfl rfl rfl rfl rfl rfl rfl ?_; intro _ _ _)
      | refine sh_build tabOk rfl rfl rfl rfl rfl rfl ?_
      | refine rndh_ret ?_
      | refine rndh_exit ?_)
    refine sh_readF tabOk dC_len dm0 (m := 2) (v := .int .i64 (n + 4 * (i : Int) + 1 + 1)) rfl rfl rfl rfl hr rfl (by omega) rfl (by rw [he, show n + 4 * (i : Int) + 1 + 1 = n + 4 * (i : Int) + 2 by omega]; rfl) ?_
    repeat' (first
      | refine s_pure tabOk rfl rfl rfl rfl ?_
      | refine aops_nil ?_
      | refine thn_normal ?_
      | refine aw_seq ?_
      | refine aw_reg ?_
      | refine s_pass rfl rfl rfl ?_
      | refine s_len tabOk rfl rfl rfl rfl ?_
      | refine aw_true rfl ?_
      | refine aw_false rfl ?_
      | refine aw_block ?_
      | refine aw_skip ?_
      | refine aw_exit ?_
      | refine blk_exit ?_
      | refine blk_exit_other rfl ?_
      | refine blk_normal ?_
      | refine thn_exit ?_
      | refine thn_ret ?_
      | refine blk_ret ?_
      | refine rnd_ret ?_
      | refine rnd_exit ?_
      | refine aw_ret ?_
      | refine s_arith tabOk rfl rfl rfl rfl (by simp only [InR]; omega) ?_
      | ((fail_if_success refine s_told rfl rfl ?_); refine s_part rfl rfl rfl ?_ ?_ <;> intro hc <;> (first | replace hc := of_decide_eq_true hc | replace hc := of_decide_eq_false hc | replace hc := eq_of_beq hc | simp only [Bool.not_eq_true', Bool.not_eq_false', Bool.and_eq_true, Bool.or_eq_true, Bool.or_eq_false_iff, Bool.not_true, Bool.not_false, decide_eq_true_eq, decide_eq_false_iff_not, Bool.and_eq_false_imp, bne_iff_ne, ne_eq, beq_iff_eq, beq_eq_false_iff_ne, bne_eq_false_iff_eq, bne_self_eq_false, not_true_eq_false, eq_self, Bool.true_eq_false, Bool.false_eq_true] at hc | skip))
      | (refine aw_if rfl ?_ ?_ <;> intro hc <;> (first | replace hc := of_decide_eq_true hc | replace hc := of_decide_eq_false hc | replace hc := eq_of_beq hc | simp only [Bool.not_eq_true', Bool.not_eq_false', Bool.and_eq_true, Bool.or_eq_true, Bool.or_eq_false_iff, Bool.not_true, Bool.not_false, decide_eq_true_eq, decide_eq_false_iff_not, Bool.and_eq_false_imp, bne_iff_ne, ne_eq, beq_iff_eq, beq_eq_false_iff_ne, bne_eq_false_iff_eq, bne_self_eq_false, not_true_eq_false, eq_self, Bool.true_eq_false, Bool.false_eq_true] at hc | skip))
      | refine s_index1n tabOk rfl rfl rfl rfl (by omega) ?_
      | refine s_indexn tabOk rfl rfl rfl rfl (by omega) ?_
      | refine s_index1 tabOk rfl rfl rfl rfl (by omega) (by omega) ?_
      | refine sh_load tabOk (by assumption) rfl rfl rfl rfl (by repeat (first | exact List.Mem.head _ | apply List.Mem.tail)) (by rfl) (by rfl) ?_
      | refine sh_loada tabOk (by assumption) rfl rfl rfl rfl (by repeat (first | exact List.Mem.head _ | apply List.Mem.tail)) (by rfl) ?_
      | (refine sh_box (by assumption) rfl rfl rfl rfl rfl rfl ?_; intro _ _ _)
      | (refine sh_alloc tabOk (by assumption) rfl rfl rfl rfl rfl rfl ?_; intro _ _ _)
      | (refine sh_store tabOk (by assumption) rfl rfl rfl rfl rfl rfl (by repeat (first | exact Upd.here | apply Upd.there)) (by rfl) ?_; intro _ _)
      | (refine sh_lit tabOk (by assumption) rfl rfl rfl rfl rfl rfl rfl rfl rfl rfl rfl ?_; intro _ _ _)
      | refine sh_build tabOk rfl rfl rfl rfl rfl rfl ?_
      | refine rndh_ret ?_
      | refine rndh_exit ?_)
    refine sh_readF tabOk dC_len dm0 (m := 3) (v := .int .i64 (n + 4 * (i : Int) + 1 + 1 + 1)) rfl rfl rfl rfl hr rfl (by omega) rfl (by rw [he, show n + 4 * (i : Int) + 1 + 1 + 1 = n + 4 * (i : Int) + 3 by omega]; rfl) ?_
    repeat' (first
      | refine s_pure tabOk rfl rfl rfl rfl ?_
      | refine aops_nil ?_
      | refine thn_normal ?_
      | refine aw_seq ?_
      | refine aw_reg ?_
      | refine s_pass rfl rfl rfl ?_
      | refine s_len tabOk rfl rfl rfl rfl ?_
      | refine aw_true rfl ?_
      | refine aw_false rfl ?_
      | refine aw_block ?_
      | refine aw_skip ?_
      | refine aw_exit ?_
      | refine blk_exit ?_
      | refine blk_exit_other rfl ?_
      | refine blk_normal ?_
      | refine thn_exit ?_
      | refine thn_ret ?_
      | refine blk_ret ?_
      | refine rnd_ret ?_
      | refine rnd_exit ?_
      | refine aw_ret ?_
      | refine s_arith tabOk rfl rfl rfl rfl (by simp only [InR]; omega) ?_
      | ((fail_if_success refine s_told rfl rfl ?_); refine s_part rfl rfl rfl ?_ ?_ <;> intro hc <;> (first | replace hc := of_decide_eq_true hc | replace hc := of_decide_eq_false hc | replace hc := eq_of_beq hc | simp only [Bool.not_eq_true', Bool.not_eq_false', Bool.and_eq_true, Bool.or_eq_true, Bool.or_eq_false_iff, Bool.not_true, Bool.not_false, decide_eq_true_eq, decide_eq_false_iff_not, Bool.and_eq_false_imp, bne_iff_ne, ne_eq, beq_iff_eq, beq_eq_false_iff_ne, bne_eq_false_iff_eq, bne_self_eq_false, not_true_eq_false, eq_self, Bool.true_eq_false, Bool.false_eq_true] at hc | skip))
      | (refine aw_if rfl ?_ ?_ <;> intro hc <;> (first | replace hc := of_decide_eq_true hc | replace hc := of_decide_eq_false hc | replace hc := eq_of_beq hc | simp only [Bool.not_eq_true', Bool.not_eq_false', Bool.and_eq_true, Bool.or_eq_true, Bool.or_eq_false_iff, Bool.not_true, Bool.not_false, decide_eq_true_eq, decide_eq_false_iff_not, Bool.and_eq_false_imp, bne_iff_ne, ne_eq, beq_iff_eq, beq_eq_false_iff_ne, bne_eq_false_iff_eq, bne_self_eq_false, not_true_eq_false, eq_self, Bool.true_eq_false, Bool.false_eq_true] at hc | skip))
      | refine s_index1n tabOk rfl rfl rfl rfl (by omega) ?_
      | refine s_indexn tabOk rfl rfl rfl rfl (by omega) ?_
      | refine s_index1 tabOk rfl rfl rfl rfl (by omega) (by omega) ?_
      | refine sh_load tabOk (by assumption) rfl rfl rfl rfl (by repeat (first | exact List.Mem.head _ | apply List.Mem.tail)) (by rfl) (by rfl) ?_
      | refine sh_loada tabOk (by assumption) rfl rfl rfl rfl (by repeat (first | exact List.Mem.head _ | apply List.Mem.tail)) (by rfl) ?_
      | (refine sh_box (by assumption) rfl rfl rfl rfl rfl rfl ?_; intro _ _ _)
      | (refine sh_alloc tabOk (by assumption) rfl rfl rfl rfl rfl rfl ?_; intro _ _ _)
      | (refine sh_store tabOk (by assumption) rfl rfl rfl rfl rfl rfl (by repeat (first | exact Upd.here | apply Upd.there)) (by rfl) ?_; intro _ _)
      | (refine sh_lit tabOk (by assumption) rfl rfl rfl rfl rfl rfl rfl rfl rfl rfl rfl ?_; intro _ _ _)
      | refine sh_build tabOk rfl rfl rfl rfl rfl rfl ?_
      | refine rndh_ret ?_
      | refine rndh_exit ?_)
    refine rnd_next (i + 1) (by omega) (by omega) (by rw [show n + 4 * ((i + 1 : Nat) : Int) = n + 4 * i + 1 + 1 + 1 + 1 by omega]; exact (by repeat (first | exact less_nil | refine less_cons rfl ?_))) rfl
  · have hil : i = xs.length := by omega
    subst hil
    refine retK_ret tabOk (congrArg Array.toList Try.results69) (rv_tmp rfl rfl rv_nil) ?_
    exact ⟨rfl, rfl⟩
end
end Go.Proofs.Ytgkmonllkfgbdaa
