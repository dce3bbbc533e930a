/- Lists of whole numbers: looked through, copied, compared, marked. -/
import Derived.Test.YtgkmonllkfgbdaaFz
import Derived.Test.YtgkmonllkfgbdaaHr
namespace Go.Proofs.Ytgkmonllkfgbdaa
set_option linter.unusedSimpArgs false
set_option linter.unusedVariables false
open Go Cn Go.RowKit
@[irreducible] def idxI (p : Int → Bool) (xs : List Int) : Int := match xs.findIdx? p with
  | some i => i
  | none => -1
theorem idxI_some {p : Int → Bool} {xs : List Int} {i : Nat} (hi : i < xs.length) (h : p (xs.getD i 0) = true) (hb : ∀ j, j < i → p (xs.getD j 0) = false) : idxI p xs = i := by
  have : xs.findIdx? p = some i := by
    rw [List.findIdx?_eq_some_iff_getElem]
    refine ⟨hi, by simpa [List.getD_eq_getElem?_getD, hi] using h, fun j hj => ?_⟩
    have := hb j hj
    have hj' : j < xs.length := by omega
    simpa [List.getD_eq_getElem?_getD, hj'] using this
  simp [idxI, this]
theorem idxI_none {p : Int → Bool} {xs : List Int} (hb : ∀ j, j < xs.length → p (xs.getD j 0) = false) : idxI p xs = -1 := by
  have : xs.findIdx? p = none := by
    rw [List.findIdx?_eq_none_iff]
    intro x hx
    obtain ⟨j, hj, rfl⟩ := List.getElem_of_mem hx
    have := hb j hj
    simpa [List.getD_eq_getElem?_getD, hj] using this
  simp [idxI, this]
theorem idxI_any (p : Int → Bool) (xs : List Int) : decide (idxI p xs ≥ 0) = xs.any p := by
  unfold idxI
  cases h : xs.findIdx? p with
  | none =>
    rw [List.findIdx?_eq_none_iff] at h
    have : xs.any p = false := by simpa using h
    rw [this]; decide
  | some i =>
    rw [List.findIdx?_eq_some_iff_getElem] at h
    obtain ⟨hi, hp, -⟩ := h
    have : xs.any p = true := by simp only [List.any_eq_true]; exact ⟨_, List.getElem_mem hi, hp⟩
    rw [this]; simp
section
variable {B : Nat} {A W W' : World} {L L' : List Res}
theorem c_IndexFuncI {v : Value} {xs : List Int} (hv : SlI W v xs) (hl : xs.length ≤ 1048576) {g : FuncId} {p1 p2 : Addr} (hE : Ent Try.prog g) {p : Int → Bool} (hp : ∀ x, ACalls Try.prog B g [.int .i64 x, .pointer (some p1), .pointer (some p2)] W (fun r W' => r = .bool (p x) ∧ W' = W)) :
    ACalls Try.prog B 106 [v, .func (.func g) #[] #[.pointer (some p1), .pointer (some p2)]] W (fun r W' => r = .int .i64 (idxI p xs) ∧ W' = W) := by
  obtain ⟨a, c, rfl, hac⟩ := hv.form
  refine acalls_of Try.func106 rfl Try.ntmps106 (Nat.le_of_ble_eq_true rfl) ?_
  repeat' (first
      | refine s_pure tabOk rfl rfl rfl rfl ?_
      | refine aops_nil ?_
      | refine thn_normal ?_
      | refine aw_seq ?_
      | refine aw_reg ?_
      | refine s_pass rfl rfl rfl ?_
      | refine s_len tabOk rfl rfl rfl rfl ?_
      | refine aw_true rfl ?_
      | refine aw_false rfl ?_
      | refine aw_block ?_
      | refine aw_skip ?_
      | refine aw_exit ?_
      | refine blk_exit ?_
      | refine blk_exit_other rfl ?_
      | refine blk_normal ?_
      | refine thn_exit ?_
      | refine thn_ret ?_
      | refine blk_ret ?_
      | refine rnd_ret ?_
      | refine rnd_exit ?_
      | refine aw_ret ?_
      | refine s_arith tabOk rfl rfl rfl rfl (by simp only [InR]; omega) ?_
      | ((fail_if_success refine s_told rfl rfl ?_); refine s_part rfl rfl rfl ?_ ?_ <;> intro hc <;> (first | replace hc := of_decide_eq_true hc | replace hc := of_decide_eq_false hc | replace hc := eq_of_beq hc | simp only [Bool.not_eq_true', Bool.not_eq_false', Bool.and_eq_true, Bool.or_eq_true, Bool.or_eq_false_iff, Bool.not_true, Bool.not_false, decide_eq_true_eq, decide_eq_false_iff_not, Bool.and_eq_false_imp, bne_iff_ne, ne_eq, beq_iff_eq, beq_eq_false_iff_ne, bne_eq_false_iff_eq, bne_self_eq_false, not_true_eq_false, eq_self, Bool.true_eq_false, Bool.false_eq_true] at hc | skip))
      | (refine aw_if rfl ?_ ?_ <;> intro hc <;> (first | replace hc := of_decide_eq_true hc | replace hc := of_decide_eq_false hc | replace hc := eq_of_beq hc | simp only [Bool.not_eq_true', Bool.not_eq_false', Bool.and_eq_true, Bool.or_eq_true, Bool.or_eq_false_iff, Bool.not_true, Bool.not_false, decide_eq_true_eq, decide_eq_false_iff_not, Bool.and_eq_false_imp, bne_iff_ne, ne_eq, beq_iff_eq, beq_eq_false_iff_ne, bne_eq_false_iff_eq, bne_self_eq_false, not_true_eq_false, eq_self, Bool.true_eq_false, Bool.false_eq_true] at hc | skip))
      | refine s_index1n tabOk rfl rfl rfl rfl (by omega) ?_
      | refine s_indexn tabOk rfl rfl rfl rfl (by omega) ?_
      | refine s_index1 tabOk rfl rfl rfl rfl (by omega) (by omega) ?_
      | refine sh_load tabOk (by assumption) rfl rfl rfl rfl (by repeat (first | exact List.Mem.head _ | apply List.Mem.tail)) (by rfl) (by rfl) ?_
      | refine sh_loada tabOk (by assumption) rfl rfl rfl rfl (by repeat (first | exact List.Mem.head _ | apply List.Mem.tail)) (by rfl) ?_
      | (refine sh_box (by assumption) rfl rfl rfl rfl rfl rfl ?_; intro _ _ _)
      | (refine sh_alloc tabOk (by assumption) rfl rfl rfl rfl rfl rfl ?_; intro _ _ _)
      | (refine sh_store tabOk (by assumption) rfl rfl rfl rfl rfl rfl (by repeat (first | exact Upd.here | apply Upd.there)) (by rfl) ?_; intro _ _)
      | (refine sh_lit tabOk (by assumption) rfl rfl rfl rfl rfl rfl rfl rfl rfl rfl rfl ?_; intro _ _ _)
      | refine sh_build tabOk rfl rfl rfl rfl rfl rfl ?_
      | refine rndh_ret ?_
      | refine rndh_exit ?_)
  refine aw_loop (fun i : Nat => [(8, .int .i64 i), (7, .int .i64 xs.length), (0, .slice a xs.length c), (1, .func (.func g) #[] #[.pointer (some p1), .pointer (some p2)])]) (fun _ => W)
      (fun i => i ≤ xs.length ∧ ∀ j, j < i → p (xs.getD j 0) = false) (fun i => xs.length - i) 0 ⟨by omega, by omega⟩ (by repeat (first | exact less_nil | refine less_cons rfl ?_)) rfl ?_
  rintro i ⟨hi, hall⟩
  repeat' (first
      | refine s_pure tabOk rfl rfl rfl rfl ?_
      | refine aops_nil ?_
      | refine thn_normal ?_
      | refine aw_seq ?_
      | refine aw_reg ?_
      | refine s_pass rfl rfl rfl ?_
      | refine s_len tabOk rfl rfl rfl rfl ?_
      | refine aw_true rfl ?_
      | refine aw_false rfl ?_
      | refine aw_block ?_
      | refine aw_skip ?_
      | refine aw_exit ?_
      | refine blk_exit ?_
      | refine blk_exit_other rfl ?_
      | refine blk_normal ?_
      | refine thn_exit ?_
      | refine thn_ret ?_
      | refine blk_ret ?_
      | refine rnd_ret ?_
      | refine rnd_exit ?_
      | refine aw_ret ?_
      | refine s_arith tabOk rfl rfl rfl rfl (by simp only [InR]; omega) ?_
      | ((fail_if_success refine s_told rfl rfl ?_); refine s_part rfl rfl rfl ?_ ?_ <;> intro hc <;> (first | replace hc := of_decide_eq_true hc | replace hc := of_decide_eq_false hc | replace hc := eq_of_beq hc | simp only [Bool.not_eq_true', Bool.not_eq_false', Bool.and_eq_true, Bool.or_eq_true, Bool.or_eq_false_iff, Bool.not_true, Bool.not_false, decide_eq_true_eq, decide_eq_false_iff_not, Bool.and_eq_false_imp, bne_iff_ne, ne_eq, beq_iff_eq, beq_eq_false_iff_ne, bne_eq_false_iff_eq, bne_self_eq_false, not_true_eq_false, eq_self, Bool.true_eq_false, Bool.false_eq_true] at hc | skip))
      | (refine aw_if rfl ?_ ?_ <;> intro hc <;> (first | replace hc := of_decide_eq_true hc | replace hc := of_decide_eq_false hc | replace hc := eq_of_beq hc | simp only [Bool.not_eq_true', Bool.not_eq_false', Bool.and_eq_true, Bool.or_eq_true, Bool.or_eq_false_iff, Bool.not_true, Bool.not_false, decide_eq_true_eq, decide_eq_false_iff_not, Bool.and_eq_false_imp, bne_iff_ne, ne_eq, beq_iff_eq, beq_eq_false_iff_ne, bne_eq_false_iff_eq, bne_self_eq_false, not_true_eq_false, eq_self, Bool.true_eq_false, Bool.false_eq_true] at hc | skip))
      | refine s_index1n tabOk rfl rfl rfl rfl (by omega) ?_
      | refine s_indexn tabOk rfl rfl rfl rfl (by omega) ?_
      | refine s_index1 tabOk rfl rfl rfl rfl (by omega) (by omega) ?_
      | refine sh_load tabOk (by assumption) rfl rfl rfl rfl (by repeat (first | exact List.Mem.head _ | apply List.Mem.tail)) (by rfl) (by rfl) ?_
      | refine sh_loada tabOk (by assumption) rfl rfl rfl rfl (by repeat (first | exact List.Mem.head _ | apply List.Mem.tail)) (by rfl) ?_
      | (refine sh_box (by assumption) rfl rfl rfl rfl rfl rfl ?_; intro _ _ _)
      | (refine sh_alloc tabOk (by assumption) rfl rfl rfl rfl rfl rfl ?_; intro _ _ _)
      | (refine sh_store tabOk (by assumption) rfl rfl rfl rfl rfl rfl (by repeat (first | exact Upd.here | apply Upd.there)) (by rfl) ?_; intro _ _)
      | (refine sh_lit tabOk (by assumption) rfl rfl rfl rfl rfl rfl rfl rfl rfl rfl rfl ?_; intro _ _ _)
      | refine sh_build tabOk rfl rfl rfl rfl rfl rfl ?_
      | refine rndh_ret ?_
      | refine rndh_exit ?_)
  all_goals try (exfalso; omega)
  · obtain ⟨b, off, rfl, hr⟩ := hv.read (by omega)
    repeat' (first
      | refine s_pure tabOk rfl rfl rfl rfl ?_
      | refine aops_nil ?_
      | refine thn_normal ?_
      | refine aw_seq ?_
      | refine aw_reg ?_
      | refine s_pass rfl rfl rfl ?_
      | refine s_len tabOk rfl rfl rfl rfl ?_
      | refine aw_true rfl ?_
      | refine aw_false rfl ?_
      | refine aw_block ?_
      | refine aw_skip ?_
      | refine aw_exit ?_
      | refine blk_exit ?_
      | refine blk_exit_other rfl ?_
      | refine blk_normal ?_
      | refine thn_exit ?_
      | refine thn_ret ?_
      | refine blk_ret ?_
      | refine rnd_ret ?_
      | refine rnd_exit ?_
      | refine aw_ret ?_
      | refine s_arith tabOk rfl rfl rfl rfl (by simp only [InR]; omega) ?_
      | ((fail_if_success refine s_told rfl rfl ?_); refine s_part rfl rfl rfl ?_ ?_ <;> intro hc <;> (first | replace hc := of_decide_eq_true hc | replace hc := of_decide_eq_false hc | replace hc := eq_of_beq hc | simp only [Bool.not_eq_true', Bool.not_eq_false', Bool.and_eq_true, Bool.or_eq_true, Bool.or_eq_false_iff, Bool.not_true, Bool.not_false, decide_eq_true_eq, decide_eq_false_iff_not, Bool.and_eq_false_imp, bne_iff_ne, ne_eq, beq_iff_eq, beq_eq_false_iff_ne, bne_eq_false_iff_eq, bne_self_eq_false, not_true_eq_false, eq_self, Bool.true_eq_false, Bool.false_eq_true] at hc | skip))
      | (refine aw_if rfl ?_ ?_ <;> intro hc <;> (first | replace hc := of_decide_eq_true hc | replace hc := of_decide_eq_false hc | replace hc := eq_of_beq hc | simp only [Bool.not_eq_true', Bool.not_eq_false', Bool.and_eq_true, Bool.or_eq_true, Bool.or_eq_false_iff, Bool.not_true, Bool.not_false, decide_eq_true_eq, decide_eq_false_iff_not, Bool.and_eq_false_imp, bne_iff_ne, ne_eq, beq_iff_eq, beq_eq_false_iff_ne, bne_eq_false_iff_eq, bne_self_eq_false, not_true_eq_false, eq_self, Bool.true_eq_false, Bool.false_eq_true] at hc | skip))
      | refine s_index1n tabOk rfl rfl rfl rfl (by omega) ?_
      | refine s_indexn tabOk rfl rfl rfl rfl (by omega) ?_
      | refine s_index1 tabOk rfl rfl rfl rfl (by omega) (by omega) ?_
      | refine sh_load tabOk (by assumption) rfl rfl rfl rfl (by repeat (first | exact List.Mem.head _ | apply List.Mem.tail)) (by rfl) (by rfl) ?_
      | refine sh_loada tabOk (by assumption) rfl rfl rfl rfl (by repeat (first | exact List.Mem.head _ | apply List.Mem.tail)) (by rfl) ?_
      | (refine sh_box (by assumption) rfl rfl rfl rfl rfl rfl ?_; intro _ _ _)
      | (refine sh_alloc tabOk (by assumption) rfl rfl rfl rfl rfl rfl ?_; intro _ _ _)
      | (refine sh_store tabOk (by assumption) rfl rfl rfl rfl rfl rfl (by repeat (first | exact Upd.here | apply Upd.there)) (by rfl) ?_; intro _ _)
      | (refine sh_lit tabOk (by assumption) rfl rfl rfl rfl rfl rfl rfl rfl rfl rfl rfl ?_; intro _ _ _)
      | refine sh_build tabOk rfl rfl rfl rfl rfl rfl ?_
      | refine rndh_ret ?_
      | refine rndh_exit ?_)
    refine sh_readT tabOk 0 rfl rfl rfl rfl hr rfl (by omega) ?_
    refine s_call rfl rfl rfl rfl hE (hp _) ?_
    rintro _ _ ⟨rfl, rfl⟩
    repeat' (first
      | refine s_pure tabOk rfl rfl rfl rfl ?_
      | refine aops_nil ?_
      | refine thn_normal ?_
      | refine aw_seq ?_
      | refine aw_reg ?_
      | refine s_pass rfl rfl rfl ?_
      | refine s_len tabOk rfl rfl rfl rfl ?_
      | refine aw_true rfl ?_
      | refine aw_false rfl ?_
      | refine aw_block ?_
      | refine aw_skip ?_
      | refine aw_exit ?_
      | refine blk_exit ?_
      | refine blk_exit_other rfl ?_
      | refine blk_normal ?_
      | refine thn_exit ?_
      | refine thn_ret ?_
      | refine blk_ret ?_
      | refine rnd_ret ?_
      | refine rnd_exit ?_
      | refine aw_ret ?_
      | refine s_arith tabOk rfl rfl rfl rfl (by simp only [InR]; omega) ?_
      | ((fail_if_success refine s_told rfl rfl ?_); refine s_part rfl rfl rfl ?_ ?_ <;> intro hc <;> (first | replace hc := of_decide_eq_true hc | replace hc := of_decide_eq_false hc | replace hc := eq_of_beq hc | simp only [Bool.not_eq_true', Bool.not_eq_false', Bool.and_eq_true, Bool.or_eq_true, Bool.or_eq_false_iff, Bool.not_true, Bool.not_false, decide_eq_true_eq, decide_eq_false_iff_not, Bool.and_eq_false_imp, bne_iff_ne, ne_eq, beq_iff_eq, beq_eq_false_iff_ne, bne_eq_false_iff_eq, bne_self_eq_false, not_true_eq_false, eq_self, Bool.true_eq_false, Bool.false_eq_true] at hc | skip))
      | (refine aw_if rfl ?_ ?_ <;> intro hc <;> (first | replace hc := of_decide_eq_true hc | replace hc := of_decide_eq_false hc | replace hc := eq_of_beq hc | simp only [Bool.not_eq_true', Bool.not_eq_false', Bool.and_eq_true, Bool.or_eq_true, Bool.or_eq_false_iff, Bool.not_true, Bool.not_false, decide_eq_true_eq, decide_eq_false_iff_not, Bool.and_eq_false_imp, bne_iff_ne, ne_eq, beq_iff_eq, beq_eq_false_iff_ne, bne_eq_false_iff_eq, bne_self_eq_false, not_true_eq_false, eq_self, Bool.true_eq_false, Bool.false_eq_true] at hc | skip))
      | refine s_index1n tabOk rfl rfl rfl rfl (by omega) ?_
      | refine s_indexn tabOk rfl rfl rfl rfl (by omega) ?_
      | refine s_index1 tabOk rfl rfl rfl rfl (by omega) (by omega) ?_
      | refine sh_load tabOk (by assumption) rfl rfl rfl rfl (by repeat (first | exact List.Mem.head _ | apply List.Mem.tail)) (by rfl) (by rfl) ?_
      | refine sh_loada tabOk (by assumption) rfl rfl rfl rfl (by repeat (first | exact List.Mem.head _ | apply List.Mem.tail)) (by rfl) ?_
      | (refine sh_box (by assumption) rfl rfl rfl rfl rfl rfl ?_; intro _ _ _)
      | (refine sh_alloc tabOk (by assumption) rfl rfl rfl rfl rfl rfl ?_; intro _ _ _)
      | (refine sh_store tabOk (by assumption) rfl rfl rfl rfl rfl rfl (by repeat (first | exact Upd.here | apply Upd.there)) (by rfl) ?_; intro _ _)
      | (refine sh_lit tabOk (by assumption) rfl rfl rfl rfl rfl rfl rfl rfl rfl rfl rfl ?_; intro _ _ _)
      | refine sh_build tabOk rfl rfl rfl rfl rfl rfl ?_
      | refine rndh_ret ?_
      | refine rndh_exit ?_)
    · refine retK_ret tabOk (congrArg Array.toList Try.results106) (rv_tmp rfl rfl rv_nil) ?_
      exact ⟨by rw [idxI_some (i := i) (by omega) hc hall]; rfl, rfl⟩
    · refine rnd_next (i + 1) ⟨by omega, ?_⟩ (by omega) (by repeat (first | exact less_nil | refine less_cons rfl ?_)) rfl
      intro j hj
      by_cases e : j = i
      · subst e; exact hc
      · exact hall j (by omega)
  · refine retK_ret tabOk (congrArg Array.toList Try.results106) (rv_tmp rfl rfl rv_nil) ?_
    exact ⟨by rw [idxI_none (fun j hj => hall j (by omega))]; rfl, rfl⟩
theorem c_ContainsFuncI {v : Value} {xs : List Int} (hv : SlI W v xs) (hl : xs.length ≤ 1048576) {g : FuncId} {p1 p2 : Addr} (hE : Ent Try.prog g) {p : Int → Bool} (hp : ∀ x, ACalls Try.prog B g [.int .i64 x, .pointer (some p1), .pointer (some p2)] W (fun r W' => r = .bool (p x) ∧ W' = W)) :
    ACalls Try.prog B 100 [v, .func (.func g) #[] #[.pointer (some p1), .pointer (some p2)]] W (fun r W' => r = .bool (xs.any p) ∧ W' = W) := by
  refine acalls_of Try.func100 rfl Try.ntmps100 (Nat.le_of_ble_eq_true rfl) ?_
  repeat' (first
      | refine s_pure tabOk rfl rfl rfl rfl ?_
      | refine aops_nil ?_
      | refine thn_normal ?_
      | refine aw_seq ?_
      | refine aw_reg ?_
      | refine s_pass rfl rfl rfl ?_
      | refine s_len tabOk rfl rfl rfl rfl ?_
      | refine aw_true rfl ?_
      | refine aw_false rfl ?_
      | refine aw_block ?_
      | refine aw_skip ?_
      | refine aw_exit ?_
      | refine blk_exit ?_
      | refine blk_exit_other rfl ?_
      | refine blk_normal ?_
      | refine thn_exit ?_
      | refine thn_ret ?_
      | refine blk_ret ?_
      | refine rnd_ret ?_
      | refine rnd_exit ?_
      | refine aw_ret ?_
      | refine s_arith tabOk rfl rfl rfl rfl (by simp only [InR]; omega) ?_
      | ((fail_if_success refine s_told rfl rfl ?_); refine s_part rfl rfl rfl ?_ ?_ <;> intro hc <;> (first | replace hc := of_decide_eq_true hc | replace hc := of_decide_eq_false hc | replace hc := eq_of_beq hc | simp only [Bool.not_eq_true', Bool.not_eq_false', Bool.and_eq_true, Bool.or_eq_true, Bool.or_eq_false_iff, Bool.not_true, Bool.not_false, decide_eq_true_eq, decide_eq_false_iff_not, Bool.and_eq_false_imp, bne_iff_ne, ne_eq, beq_iff_eq, beq_eq_false_iff_ne, bne_eq_false_iff_eq, bne_self_eq_false, not_true_eq_false, eq_self, Bool.true_eq_false, Bool.false_eq_true] at hc | skip))
      | (refine aw_if rfl ?_ ?_ <;> intro hc <;> (first | replace hc := of_decide_eq_true hc | replace hc := of_decide_eq_false hc | replace hc := eq_of_beq hc | simp only [Bool.not_eq_true', Bool.not_eq_false', Bool.and_eq_true, Bool.or_eq_true, Bool.or_eq_false_iff, Bool.not_true, Bool.not_false, decide_eq_true_eq, decide_eq_false_iff_not, Bool.and_eq_false_imp, bne_iff_ne, ne_eq, beq_iff_eq, beq_eq_false_iff_ne, bne_eq_false_iff_eq, bne_self_eq_false, not_true_eq_false, eq_self, Bool.true_eq_false, Bool.false_eq_true] at hc | skip))
      | refine s_index1n tabOk rfl rfl rfl rfl (by omega) ?_
      | refine s_indexn tabOk rfl rfl rfl rfl (by omega) ?_
      | refine s_index1 tabOk rfl rfl rfl rfl (by omega) (by omega) ?_
      | refine sh_load tabOk (by assumption) rfl rfl rfl rfl (by repeat (first | exact List.Mem.head _ | apply List.Mem.tail)) (by rfl) (by rfl) ?_
      | refine sh_loada tabOk (by assumption) rfl rfl rfl rfl (by repeat (first | exact List.Mem.head _ | apply List.Mem.tail)) (by rfl) ?_
      | (refine sh_box (by assumption) rfl rfl rfl rfl rfl rfl ?_; intro _ _ _)
      | (refine sh_alloc tabOk (by assumption) rfl rfl rfl rfl rfl rfl ?_; intro _ _ _)
      | (refine sh_store tabOk (by assumption) rfl rfl rfl rfl rfl rfl (by repeat (first | exact Upd.here | apply Upd.there)) (by rfl) ?_; intro _ _)
      | (refine sh_lit tabOk (by assumption) rfl rfl rfl rfl rfl rfl rfl rfl rfl rfl rfl ?_; intro _ _ _)
      | refine sh_build tabOk rfl rfl rfl rfl rfl rfl ?_
      | refine rndh_ret ?_
      | refine rndh_exit ?_)
  refine s_call rfl rfl rfl rfl ent106 (c_IndexFuncI hv hl hE hp) ?_
  rintro _ _ ⟨rfl, rfl⟩
  repeat' (first
      | refine s_pure tabOk rfl rfl rfl rfl ?_
      | refine aops_nil ?_
      | refine thn_normal ?_
      | refine aw_seq ?_
      | refine aw_reg ?_
      | refine s_pass rfl rfl rfl ?_
      | refine s_len tabOk rfl rfl rfl rfl ?_
      | refine aw_true rfl ?_
      | refine aw_false rfl ?_
      | refine aw_block ?_
      | refine aw_skip ?_
      | refine aw_exit ?_
      | refine blk_exit ?_
      | refine blk_exit_other rfl ?_
      | refine blk_normal ?_
      | refine thn_exit ?_
      | refine thn_ret ?_
      | refine blk_ret ?_
      | refine rnd_ret ?_
      | refine rnd_exit ?_
      | refine aw_ret ?_
      | refine s_arith tabOk rfl rfl rfl rfl (by simp only [InR]; omega) ?_
      | ((fail_if_success refine s_told rfl rfl ?_); refine s_part rfl rfl rfl ?_ ?_ <;> intro hc <;> (first | replace hc := of_decide_eq_true hc | replace hc := of_decide_eq_false hc | replace hc := eq_of_beq hc | simp only [Bool.not_eq_true', Bool.not_eq_false', Bool.and_eq_true, Bool.or_eq_true, Bool.or_eq_false_iff, Bool.not_true, Bool.not_false, decide_eq_true_eq, decide_eq_false_iff_not, Bool.and_eq_false_imp, bne_iff_ne, ne_eq, beq_iff_eq, beq_eq_false_iff_ne, bne_eq_false_iff_eq, bne_self_eq_false, not_true_eq_false, eq_self, Bool.true_eq_false, Bool.false_eq_true] at hc | skip))
      | (refine aw_if rfl ?_ ?_ <;> intro hc <;> (first | replace hc := of_decide_eq_true hc | replace hc := of_decide_eq_false hc | replace hc := eq_of_beq hc | simp only [Bool.not_eq_true', Bool.not_eq_false', Bool.and_eq_true, Bool.or_eq_true, Bool.or_eq_false_iff, Bool.not_true, Bool.not_false, decide_eq_true_eq, decide_eq_false_iff_not, Bool.and_eq_false_imp, bne_iff_ne, ne_eq, beq_iff_eq, beq_eq_false_iff_ne, bne_eq_false_iff_eq, bne_self_eq_false, not_true_eq_false, eq_self, Bool.true_eq_false, Bool.false_eq_true] at hc | skip))
      | refine s_index1n tabOk rfl rfl rfl rfl (by omega) ?_
      | refine s_indexn tabOk rfl rfl rfl rfl (by omega) ?_
      | refine s_index1 tabOk rfl rfl rfl rfl (by omega) (by omega) ?_
      | refine sh_load tabOk (by assumption) rfl rfl rfl rfl (by repeat (first | exact List.Mem.head _ | apply List.Mem.tail)) (by rfl) (by rfl) ?_
      | refine sh_loada tabOk (by assumption) rfl rfl rfl rfl (by repeat (first | exact List.Mem.head _ | apply List.Mem.tail)) (by rfl) ?_
      | (refine sh_box (by assumption) rfl rfl rfl rfl rfl rfl ?_; intro _ _ _)
      | (refine sh_alloc tabOk (by assumption) rfl rfl rfl rfl rfl rfl ?_; intro _ _ _)
      | (refine sh_store tabOk (by assumption) rfl rfl rfl rfl rfl rfl (by repeat (first | exact Upd.here | apply Upd.there)) (by rfl) ?_; intro _ _)
      | (refine sh_lit tabOk (by assumption) rfl rfl rfl rfl rfl rfl rfl rfl rfl rfl rfl ?_; intro _ _ _)
      | refine sh_build tabOk rfl rfl rfl rfl rfl rfl ?_
      | refine rndh_ret ?_
      | refine rndh_exit ?_)
  refine retK_ret tabOk (congrArg Array.toList Try.results100) (rv_tmp rfl rfl rv_nil) ?_
  exact ⟨by rw [idxI_any]; rfl, rfl⟩
theorem c_impl_areWithin_1 {b1 b2 : Nat} {e1 e2 : TypeId} {lo hi : Int} (H1 : (Res.blk b1 [.int .i64 lo] e1).ok W) (H2 : (Res.blk b2 [.int .i64 hi] e2).ok W) (x : Int) :
    ACalls Try.prog B 101 [.int .i64 x, .pointer (some ⟨b1, 0, none⟩), .pointer (some ⟨b2, 0, none⟩)] W (fun r W' => r = .bool (!(decide (lo ≤ x) && decide (x ≤ hi))) ∧ W' = W) := by
  refine acalls_of Try.func101 rfl Try.ntmps101 (Nat.le_of_ble_eq_true rfl) ?_
  repeat' (first
      | refine s_pure tabOk rfl rfl rfl rfl ?_
      | refine aops_nil ?_
      | refine thn_normal ?_
      | refine aw_seq ?_
      | refine aw_reg ?_
      | refine s_pass rfl rfl rfl ?_
      | refine s_len tabOk rfl rfl rfl rfl ?_
      | refine aw_true rfl ?_
      | refine aw_false rfl ?_
      | refine aw_block ?_
      | refine aw_skip ?_
      | refine aw_exit ?_
      | refine blk_exit ?_
      | refine blk_exit_other rfl ?_
      | refine blk_normal ?_
      | refine thn_exit ?_
      | refine thn_ret ?_
      | refine blk_ret ?_
      | refine rnd_ret ?_
      | refine rnd_exit ?_
      | refine aw_ret ?_
      | refine s_arith tabOk rfl rfl rfl rfl (by simp only [InR]; omega) ?_
      | ((fail_if_success refine s_told rfl rfl ?_); refine s_part rfl rfl rfl ?_ ?_ <;> intro hc <;> (first | replace hc := of_decide_eq_true hc | replace hc := of_decide_eq_false hc | replace hc := eq_of_beq hc | simp only [Bool.not_eq_true', Bool.not_eq_false', Bool.and_eq_true, Bool.or_eq_true, Bool.or_eq_false_iff, Bool.not_true, Bool.not_false, decide_eq_true_eq, decide_eq_false_iff_not, Bool.and_eq_false_imp, bne_iff_ne, ne_eq, beq_iff_eq, beq_eq_false_iff_ne, bne_eq_false_iff_eq, bne_self_eq_false, not_true_eq_false, eq_self, Bool.true_eq_false, Bool.false_eq_true] at hc | skip))
      | (refine aw_if rfl ?_ ?_ <;> intro hc <;> (first | replace hc := of_decide_eq_true hc | replace hc := of_decide_eq_false hc | replace hc := eq_of_beq hc | simp only [Bool.not_eq_true', Bool.not_eq_false', Bool.and_eq_true, Bool.or_eq_true, Bool.or_eq_false_iff, Bool.not_true, Bool.not_false, decide_eq_true_eq, decide_eq_false_iff_not, Bool.and_eq_false_imp, bne_iff_ne, ne_eq, beq_iff_eq, beq_eq_false_iff_ne, bne_eq_false_iff_eq, bne_self_eq_false, not_true_eq_false, eq_self, Bool.true_eq_false, Bool.false_eq_true] at hc | skip))
      | refine s_index1n tabOk rfl rfl rfl rfl (by omega) ?_
      | refine s_indexn tabOk rfl rfl rfl rfl (by omega) ?_
      | refine s_index1 tabOk rfl rfl rfl rfl (by omega) (by omega) ?_
      | refine sh_load tabOk (by assumption) rfl rfl rfl rfl (by repeat (first | exact List.Mem.head _ | apply List.Mem.tail)) (by rfl) (by rfl) ?_
      | refine sh_loada tabOk (by assumption) rfl rfl rfl rfl (by repeat (first | exact List.Mem.head _ | apply List.Mem.tail)) (by rfl) ?_
      | (refine sh_box (by assumption) rfl rfl rfl rfl rfl rfl ?_; intro _ _ _)
      | (refine sh_alloc tabOk (by assumption) rfl rfl rfl rfl rfl rfl ?_; intro _ _ _)
      | (refine sh_store tabOk (by assumption) rfl rfl rfl rfl rfl rfl (by repeat (first | exact Upd.here | apply Upd.there)) (by rfl) ?_; intro _ _)
      | (refine sh_lit tabOk (by assumption) rfl rfl rfl rfl rfl rfl rfl rfl rfl rfl rfl ?_; intro _ _ _)
      | refine sh_build tabOk rfl rfl rfl rfl rfl rfl ?_
      | refine rndh_ret ?_
      | refine rndh_exit ?_)
  refine s_givesv rfl rfl rfl (gh_load tabOk rfl H1 rfl rfl) ?_
  refine s_givesv rfl rfl rfl (gh_load tabOk rfl H2 rfl rfl) ?_
  refine s_call rfl rfl rfl rfl ent82 (c_impl_within _ _ _) ?_
  rintro _ _ ⟨rfl, rfl⟩
  repeat' (first
      | refine s_pure tabOk rfl rfl rfl rfl ?_
      | refine aops_nil ?_
      | refine thn_normal ?_
      | refine aw_seq ?_
      | refine aw_reg ?_
      | refine s_pass rfl rfl rfl ?_
      | refine s_len tabOk rfl rfl rfl rfl ?_
      | refine aw_true rfl ?_
      | refine aw_false rfl ?_
      | refine aw_block ?_
      | refine aw_skip ?_
      | refine aw_exit ?_
      | refine blk_exit ?_
      | refine blk_exit_other rfl ?_
      | refine blk_normal ?_
      | refine thn_exit ?_
      | refine thn_ret ?_
      | refine blk_ret ?_
      | refine rnd_ret ?_
      | refine rnd_exit ?_
      | refine aw_ret ?_
      | refine s_arith tabOk rfl rfl rfl rfl (by simp only [InR]; omega) ?_
      | ((fail_if_success refine s_told rfl rfl ?_); refine s_part rfl rfl rfl ?_ ?_ <;> intro hc <;> (first | replace hc := of_decide_eq_true hc | replace hc := of_decide_eq_false hc | replace hc := eq_of_beq hc | simp only [Bool.not_eq_true', Bool.not_eq_false', Bool.and_eq_true, Bool.or_eq_true, Bool.or_eq_false_iff, Bool.not_true, Bool.not_false, decide_eq_true_eq, decide_eq_false_iff_not, Bool.and_eq_false_imp, bne_iff_ne, ne_eq, beq_iff_eq, beq_eq_false_iff_ne, bne_eq_false_iff_eq, bne_self_eq_false, not_true_eq_false, eq_self, Bool.true_eq_false, Bool.false_eq_true] at hc | skip))
      | (refine aw_if rfl ?_ ?_ <;> intro hc <;> (first | replace hc := of_decide_eq_true hc | replace hc := of_decide_eq_false hc | replace hc := eq_of_beq hc | simp only [Bool.not_eq_true', Bool.not_eq_false', Bool.and_eq_true, Bool.or_eq_true, Bool.or_eq_false_iff, Bool.not_true, Bool.not_false, decide_eq_true_eq, decide_eq_false_iff_not, Bool.and_eq_false_imp, bne_iff_ne, ne_eq, beq_iff_eq, beq_eq_false_iff_ne, bne_eq_false_iff_eq, bne_self_eq_false, not_true_eq_false, eq_self, Bool.true_eq_false, Bool.false_eq_true] at hc | skip))
      | refine s_index1n tabOk rfl rfl rfl rfl (by omega) ?_
      | refine s_indexn tabOk rfl rfl rfl rfl (by omega) ?_
      | refine s_index1 tabOk rfl rfl rfl rfl (by omega) (by omega) ?_
      | refine sh_load tabOk (by assumption) rfl rfl rfl rfl (by repeat (first | exact List.Mem.head _ | apply List.Mem.tail)) (by rfl) (by rfl) ?_
      | refine sh_loada tabOk (by assumption) rfl rfl rfl rfl (by repeat (first | exact List.Mem.head _ | apply List.Mem.tail)) (by rfl) ?_
      | (refine sh_box (by assumption) rfl rfl rfl rfl rfl rfl ?_; intro _ _ _)
      | (refine sh_alloc tabOk (by assumption) rfl rfl rfl rfl rfl rfl ?_; intro _ _ _)
      | (refine sh_store tabOk (by assumption) rfl rfl rfl rfl rfl rfl (by repeat (first | exact Upd.here | apply Upd.there)) (by rfl) ?_; intro _ _)
      | (refine sh_lit tabOk (by assumption) rfl rfl rfl rfl rfl rfl rfl rfl rfl rfl rfl ?_; intro _ _ _)
      | refine sh_build tabOk rfl rfl rfl rfl rfl rfl ?_
      | refine rndh_ret ?_
      | refine rndh_exit ?_)
  refine retK_ret tabOk (congrArg Array.toList Try.results101) (rv_tmp rfl rfl rv_nil) ?_
  exact ⟨rfl, rfl⟩
def inAll (lo hi : Int) (xs : List Int) : Bool := xs.all fun x => decide (lo ≤ x) && decide (x ≤ hi)
theorem c_impl_areWithin (hB : B ≤ W.heap.size) {v : Value} {xs : List Int} (hv : SlI W v xs) (hl : xs.length ≤ 1048576) (lo hi : Int) :
    ACalls Try.prog B 72 [v, .int .i64 lo, .int .i64 hi] W (fun r W' => r = .bool (inAll lo hi xs) ∧ Hp B W W' []) := by
  obtain ⟨a, c, rfl, hac⟩ := hv.form
  have H0 : Hp B W W [] := Hp.new hB
  refine acalls_of Try.func72 rfl Try.ntmps72 (Nat.le_of_ble_eq_true rfl) ?_
  repeat' (first
      | refine s_pure tabOk rfl rfl rfl rfl ?_
      | refine aops_nil ?_
      | refine thn_normal ?_
      | refine aw_seq ?_
      | refine aw_reg ?_
      | refine s_pass rfl rfl rfl ?_
      | refine s_len tabOk rfl rfl rfl rfl ?_
      | refine aw_true rfl ?_
      | refine aw_false rfl ?_
      | refine aw_block ?_
      | refine aw_skip ?_
      | refine aw_exit ?_
      | refine blk_exit ?_
      | refine blk_exit_other rfl ?_
      | refine blk_normal ?_
      | refine thn_exit ?_
      | refine thn_ret ?_
      | refine blk_ret ?_
      | refine rnd_ret ?_
      | refine rnd_exit ?_
      | refine aw_ret ?_
      | refine s_arith tabOk rfl rfl rfl rfl (by simp only [InR]; omega) ?_
      | ((fail_if_success refine s_told rfl rfl ?_); refine s_part rfl rfl rfl ?_ ?_ <;> intro hc <;> (first | replace hc := of_decide_eq_true hc | replace hc := of_decide_eq_false hc | replace hc := eq_of_beq hc | simp only [Bool.not_eq_true', Bool.not_eq_false', Bool.and_eq_true, Bool.or_eq_true, Bool.or_eq_false_iff, Bool.not_true, Bool.not_false, decide_eq_true_eq, decide_eq_false_iff_not, Bool.and_eq_false_imp, bne_iff_ne, ne_eq, beq_iff_eq, beq_eq_false_iff_ne, bne_eq_false_iff_eq, bne_self_eq_false, not_true_eq_false, eq_self, Bool.true_eq_false, Bool.false_eq_true] at hc | skip))
      | (refine aw_if rfl ?_ ?_ <;> intro hc <;> (first | replace hc := of_decide_eq_true hc | replace hc := of_decide_eq_false hc | replace hc := eq_of_beq hc | simp only [Bool.not_eq_true', Bool.not_eq_false', Bool.and_eq_true, Bool.or_eq_true, Bool.or_eq_false_iff, Bool.not_true, Bool.not_false, decide_eq_true_eq, decide_eq_false_iff_not, Bool.and_eq_false_imp, bne_iff_ne, ne_eq, beq_iff_eq, beq_eq_false_iff_ne, bne_eq_false_iff_eq, bne_self_eq_false, not_true_eq_false, eq_self, Bool.true_eq_false, Bool.false_eq_true] at hc | skip))
      | refine s_index1n tabOk rfl rfl rfl rfl (by omega) ?_
      | refine s_indexn tabOk rfl rfl rfl rfl (by omega) ?_
      | refine s_index1 tabOk rfl rfl rfl rfl (by omega) (by omega) ?_
      | refine sh_load tabOk (by assumption) rfl rfl rfl rfl (by repeat (first | exact List.Mem.head _ | apply List.Mem.tail)) (by rfl) (by rfl) ?_
      | refine sh_loada tabOk (by assumption) rfl rfl rfl rfl (by repeat (first | exact List.Mem.head _ | apply List.Mem.tail)) (by rfl) ?_
      | (refine sh_box (by assumption) rfl rfl rfl rfl rfl rfl ?_; intro _ _ _)
      | (refine sh_alloc tabOk (by assumption) rfl rfl rfl rfl rfl rfl ?_; intro _ _ _)
      | (refine sh_store tabOk (by assumption) rfl rfl rfl rfl rfl rfl (by repeat (first | exact Upd.here | apply Upd.there)) (by rfl) ?_; intro _ _)
      | (refine sh_lit tabOk (by assumption) rfl rfl rfl rfl rfl rfl rfl rfl rfl rfl rfl ?_; intro _ _ _)
      | refine sh_build tabOk rfl rfl rfl rfl rfl rfl ?_
      | refine rndh_ret ?_
      | refine rndh_exit ?_)
  rename_i b1 W1 H1 b2 W2 H2
  refine s_call rfl rfl rfl rfl ent100 (c_ContainsFuncI (H2.sliA hv) hl ent101 (c_impl_areWithin_1 (H2.ok _ (by repeat (first | exact List.Mem.head _ | apply List.Mem.tail))) (H2.ok _ (by repeat (first | exact List.Mem.head _ | apply List.Mem.tail))))) ?_
  rintro _ _ ⟨rfl, rfl⟩
  repeat' (first
      | refine s_pure tabOk rfl rfl rfl rfl ?_
      | refine aops_nil ?_
      | refine thn_normal ?_
      | refine aw_seq ?_
      | refine aw_reg ?_
      | refine s_pass rfl rfl rfl ?_
      | refine s_len tabOk rfl rfl rfl rfl ?_
      | refine aw_true rfl ?_
      | refine aw_false rfl ?_
      | refine aw_block ?_
      | refine aw_skip ?_
      | refine aw_exit ?_
      | refine blk_exit ?_
      | refine blk_exit_other rfl ?_
      | refine blk_normal ?_
      | refine thn_exit ?_
      | refine thn_ret ?_
      | refine blk_ret ?_
      | refine rnd_ret ?_
      | refine rnd_exit ?_
      | refine aw_ret ?_
      | refine s_arith tabOk rfl rfl rfl rfl (by simp only [InR]; omega) ?_
      | ((fail_if_success refine s_told rfl rfl ?_); refine s_part rfl rfl rfl ?_ ?_ <;> intro hc <;> (first | replace hc := of_decide_eq_true hc | replace hc := of_decide_eq_false hc | replace hc := eq_of_beq hc | simp only [Bool.not_eq_true', Bool.not_eq_false', Bool.and_eq_true, Bool.or_eq_true, Bool.or_eq_false_iff, Bool.not_true, Bool.not_false, decide_eq_true_eq, decide_eq_false_iff_not, Bool.and_eq_false_imp, bne_iff_ne, ne_eq, beq_iff_eq, beq_eq_false_iff_ne, bne_eq_false_iff_eq, bne_self_eq_false, not_true_eq_false, eq_self, Bool.true_eq_false, Bool.false_eq_true] at hc | skip))
      | (refine aw_if rfl ?_ ?_ <;> intro hc <;> (first | replace hc := of_decide_eq_true hc | replace hc := of_decide_eq_false hc | replace hc := eq_of_beq hc | simp only [Bool.not_eq_true', Bool.not_eq_false', Bool.and_eq_true, Bool.or_eq_true, Bool.or_eq_false_iff, Bool.not_true, Bool.not_false, decide_eq_true_eq, decide_eq_false_iff_not, Bool.and_eq_false_imp, bne_iff_ne, ne_eq, beq_iff_eq, beq_eq_false_iff_ne, bne_eq_false_iff_eq, bne_self_eq_false, not_true_eq_false, eq_self, Bool.true_eq_false, Bool.false_eq_true] at hc | skip))
      | refine s_index1n tabOk rfl rfl rfl rfl (by omega) ?_
      | refine s_indexn tabOk rfl rfl rfl rfl (by omega) ?_
      | refine s_index1 tabOk rfl rfl rfl rfl (by omega) (by omega) ?_
      | refine sh_load tabOk (by assumption) rfl rfl rfl rfl (by repeat (first | exact List.Mem.head _ | apply List.Mem.tail)) (by rfl) (by rfl) ?_
      | refine sh_loada tabOk (by assumption) rfl rfl rfl rfl (by repeat (first | exact List.Mem.head _ | apply List.Mem.tail)) (by rfl) ?_
      | (refine sh_box (by assumption) rfl rfl rfl rfl rfl rfl ?_; intro _ _ _)
      | (refine sh_alloc tabOk (by assumption) rfl rfl rfl rfl rfl rfl ?_; intro _ _ _)
      | (refine sh_store tabOk (by assumption) rfl rfl rfl rfl rfl rfl (by repeat (first | exact Upd.here | apply Upd.there)) (by rfl) ?_; intro _ _)
      | (refine sh_lit tabOk (by assumption) rfl rfl rfl rfl rfl rfl rfl rfl rfl rfl rfl ?_; intro _ _ _)
      | refine sh_build tabOk rfl rfl rfl rfl rfl rfl ?_
      | refine rndh_ret ?_
      | refine rndh_exit ?_)
  refine retK_ret tabOk (congrArg Array.toList Try.results72) (rv_tmp rfl rfl rv_nil) ?_
  exact ⟨by simp [retV, inAll, List.all_eq_not_any_not], H2.sub (by repeat (first | exact List.nil_sublist _ | refine List.Sublist.cons_cons _ ?_ | refine List.Sublist.cons _ ?_))⟩
theorem c_spec_l06Unit (x : Int) : ACalls Try.prog B 83 [.int .i64 x] W (fun r W' => r = .bool (decide (0 ≤ x) && decide (x ≤ 1000000000)) ∧ W' = W) := by
  refine acalls_of Try.func83 rfl Try.ntmps83 (Nat.le_of_ble_eq_true rfl) ?_
  repeat' (first
      | refine s_pure tabOk rfl rfl rfl rfl ?_
      | refine aops_nil ?_
      | refine thn_normal ?_
      | refine aw_seq ?_
      | refine aw_reg ?_
      | refine s_pass rfl rfl rfl ?_
      | refine s_len tabOk rfl rfl rfl rfl ?_
      | refine aw_true rfl ?_
      | refine aw_false rfl ?_
      | refine aw_block ?_
      | refine aw_skip ?_
      | refine aw_exit ?_
      | refine blk_exit ?_
      | refine blk_exit_other rfl ?_
      | refine blk_normal ?_
      | refine thn_exit ?_
      | refine thn_ret ?_
      | refine blk_ret ?_
      | refine rnd_ret ?_
      | refine rnd_exit ?_
      | refine aw_ret ?_
      | refine s_arith tabOk rfl rfl rfl rfl (by simp only [InR]; omega) ?_
      | ((fail_if_success refine s_told rfl rfl ?_); refine s_part rfl rfl rfl ?_ ?_ <;> intro hc <;> (first | replace hc := of_decide_eq_true hc | replace hc := of_decide_eq_false hc | replace hc := eq_of_beq hc | simp only [Bool.not_eq_true', Bool.not_eq_false', Bool.and_eq_true, Bool.or_eq_true, Bool.or_eq_false_iff, Bool.not_true, Bool.not_false, decide_eq_true_eq, decide_eq_false_iff_not, Bool.and_eq_false_imp, bne_iff_ne, ne_eq, beq_iff_eq, beq_eq_false_iff_ne, bne_eq_false_iff_eq, bne_self_eq_false, not_true_eq_false, eq_self, Bool.true_eq_false, Bool.false_eq_true] at hc | skip))
      | (refine aw_if rfl ?_ ?_ <;> intro hc <;> (first | replace hc := of_decide_eq_true hc | replace hc := of_decide_eq_false hc | replace hc := eq_of_beq hc | simp only [Bool.not_eq_true', Bool.not_eq_false', Bool.and_eq_true, Bool.or_eq_true, Bool.or_eq_false_iff, Bool.not_true, Bool.not_false, decide_eq_true_eq, decide_eq_false_iff_not, Bool.and_eq_false_imp, bne_iff_ne, ne_eq, beq_iff_eq, beq_eq_false_iff_ne, bne_eq_false_iff_eq, bne_self_eq_false, not_true_eq_false, eq_self, Bool.true_eq_false, Bool.false_eq_true] at hc | skip))
      | refine s_index1n tabOk rfl rfl rfl rfl (by omega) ?_
      | refine s_indexn tabOk rfl rfl rfl rfl (by omega) ?_
      | refine s_index1 tabOk rfl rfl rfl rfl (by omega) (by omega) ?_
      | refine sh_load tabOk (by assumption) rfl rfl rfl rfl (by repeat (first | exact List.Mem.head _ | apply List.Mem.tail)) (by rfl) (by rfl) ?_
      | refine sh_loada tabOk (by assumption) rfl rfl rfl rfl (by repeat (first | exact List.Mem.head _ | apply List.Mem.tail)) (by rfl) ?_
      | (refine sh_box (by assumption) rfl rfl rfl rfl rfl rfl ?_; intro _ _ _)
      | (refine sh_alloc tabOk (by assumption) rfl rfl rfl rfl rfl rfl ?_; intro _ _ _)
      | (refine sh_store tabOk (by assumption) rfl rfl rfl rfl rfl rfl (by repeat (first | exact Upd.here | apply Upd.there)) (by rfl) ?_; intro _ _)
      | (refine sh_lit tabOk (by assumption) rfl rfl rfl rfl rfl rfl rfl rfl rfl rfl rfl ?_; intro _ _ _)
      | refine sh_build tabOk rfl rfl rfl rfl rfl rfl ?_
      | refine rndh_ret ?_
      | refine rndh_exit ?_)
  refine s_call rfl rfl rfl rfl ent81 (c_spec_l00In _ _ _) ?_
  rintro _ _ ⟨rfl, rfl⟩
  repeat' (first
      | refine s_pure tabOk rfl rfl rfl rfl ?_
      | refine aops_nil ?_
      | refine thn_normal ?_
      | refine aw_seq ?_
      | refine aw_reg ?_
      | refine s_pass rfl rfl rfl ?_
      | refine s_len tabOk rfl rfl rfl rfl ?_
      | refine aw_true rfl ?_
      | refine aw_false rfl ?_
      | refine aw_block ?_
      | refine aw_skip ?_
      | refine aw_exit ?_
      | refine blk_exit ?_
      | refine blk_exit_other rfl ?_
      | refine blk_normal ?_
      | refine thn_exit ?_
      | refine thn_ret ?_
      | refine blk_ret ?_
      | refine rnd_ret ?_
      | refine rnd_exit ?_
      | refine aw_ret ?_
      | refine s_arith tabOk rfl rfl rfl rfl (by simp only [InR]; omega) ?_
      | ((fail_if_success refine s_told rfl rfl ?_); refine s_part rfl rfl rfl ?_ ?_ <;> intro hc <;> (first | replace hc := of_decide_eq_true hc | replace hc := of_decide_eq_false hc | replace hc := eq_of_beq hc | simp only [Bool.not_eq_true', Bool.not_eq_false', Bool.and_eq_true, Bool.or_eq_true, Bool.or_eq_false_iff, Bool.not_true, Bool.not_false, decide_eq_true_eq, decide_eq_false_iff_not, Bool.and_eq_false_imp, bne_iff_ne, ne_eq, beq_iff_eq, beq_eq_false_iff_ne, bne_eq_false_iff_eq, bne_self_eq_false, not_true_eq_false, eq_self, Bool.true_eq_false, Bool.false_eq_true] at hc | skip))
      | (refine aw_if rfl ?_ ?_ <;> intro hc <;> (first | replace hc := of_decide_eq_true hc | replace hc := of_decide_eq_false hc | replace hc := eq_of_beq hc | simp only [Bool.not_eq_true', Bool.not_eq_false', Bool.and_eq_true, Bool.or_eq_true, Bool.or_eq_false_iff, Bool.not_true, Bool.not_false, decide_eq_true_eq, decide_eq_false_iff_not, Bool.and_eq_false_imp, bne_iff_ne, ne_eq, beq_iff_eq, beq_eq_false_iff_ne, bne_eq_false_iff_eq, bne_self_eq_false, not_true_eq_false, eq_self, Bool.true_eq_false, Bool.false_eq_true] at hc | skip))
      | refine s_index1n tabOk rfl rfl rfl rfl (by omega) ?_
      | refine s_indexn tabOk rfl rfl rfl rfl (by omega) ?_
      | refine s_index1 tabOk rfl rfl rfl rfl (by omega) (by omega) ?_
      | refine sh_load tabOk (by assumption) rfl rfl rfl rfl (by repeat (first | exact List.Mem.head _ | apply List.Mem.tail)) (by rfl) (by rfl) ?_
      | refine sh_loada tabOk (by assumption) rfl rfl rfl rfl (by repeat (first | exact List.Mem.head _ | apply List.Mem.tail)) (by rfl) ?_
      | (refine sh_box (by assumption) rfl rfl rfl rfl rfl rfl ?_; intro _ _ _)
      | (refine sh_alloc tabOk (by assumption) rfl rfl rfl rfl rfl rfl ?_; intro _ _ _)
      | (refine sh_store tabOk (by assumption) rfl rfl rfl rfl rfl rfl (by repeat (first | exact Upd.here | apply Upd.there)) (by rfl) ?_; intro _ _)
      | (refine sh_lit tabOk (by assumption) rfl rfl rfl rfl rfl rfl rfl rfl rfl rfl rfl ?_; intro _ _ _)
      | refine sh_build tabOk rfl rfl rfl rfl rfl rfl ?_
      | refine rndh_ret ?_
      | refine rndh_exit ?_)
  refine retK_ret tabOk (congrArg Array.toList Try.results83) (rv_tmp rfl rfl rv_nil) ?_
  exact ⟨rfl, rfl⟩
/-! ### laws: sizes, copies, comparison, marks -/
theorem c_laws_szInt64S {a : Option Addr} {n c : Nat} (hn : n ≤ 9223372036854775807) {left : Int} (h0 : 0 ≤ left) (h1 : left ≤ 1048576) : ACalls Try.prog B 56 [.slice a n c, .int .i64 left] W (fun r W' => r = .int .i64 (if left - n < 0 then -1 else left - n) ∧ W' = W) := by
  refine acalls_of Try.func56 rfl Try.ntmps56 (Nat.le_of_ble_eq_true rfl) ?_
  repeat' (first
      | refine s_pure tabOk rfl rfl rfl rfl ?_
      | refine aops_nil ?_
      | refine thn_normal ?_
      | refine aw_seq ?_
      | refine aw_reg ?_
      | refine s_pass rfl rfl rfl ?_
      | refine s_len tabOk rfl rfl rfl rfl ?_
      | refine aw_true rfl ?_
      | refine aw_false rfl ?_
      | refine aw_block ?_
      | refine aw_skip ?_
      | refine aw_exit ?_
      | refine blk_exit ?_
      | refine blk_exit_other rfl ?_
      | refine blk_normal ?_
      | refine thn_exit ?_
      | refine thn_ret ?_
      | refine blk_ret ?_
      | refine rnd_ret ?_
      | refine rnd_exit ?_
      | refine aw_ret ?_
      | refine s_arith tabOk rfl rfl rfl rfl (by simp only [InR]; omega) ?_
      | ((fail_if_success refine s_told rfl rfl ?_); refine s_part rfl rfl rfl ?_ ?_ <;> intro hc <;> (first | replace hc := of_decide_eq_true hc | replace hc := of_decide_eq_false hc | replace hc := eq_of_beq hc | simp only [Bool.not_eq_true', Bool.not_eq_false', Bool.and_eq_true, Bool.or_eq_true, Bool.or_eq_false_iff, Bool.not_true, Bool.not_false, decide_eq_true_eq, decide_eq_false_iff_not, Bool.and_eq_false_imp, bne_iff_ne, ne_eq, beq_iff_eq, beq_eq_false_iff_ne, bne_eq_false_iff_eq, bne_self_eq_false, not_true_eq_false, eq_self, Bool.true_eq_false, Bool.false_eq_true] at hc | skip))
      | (refine aw_if rfl ?_ ?_ <;> intro hc <;> (first | replace hc := of_decide_eq_true hc | replace hc := of_decide_eq_false hc | replace hc := eq_of_beq hc | simp only [Bool.not_eq_true', Bool.not_eq_false', Bool.and_eq_true, Bool.or_eq_true, Bool.or_eq_false_iff, Bool.not_true, Bool.not_false, decide_eq_true_eq, decide_eq_false_iff_not, Bool.and_eq_false_imp, bne_iff_ne, ne_eq, beq_iff_eq, beq_eq_false_iff_ne, bne_eq_false_iff_eq, bne_self_eq_false, not_true_eq_false, eq_self, Bool.true_eq_false, Bool.false_eq_true] at hc | skip))
      | refine s_index1n tabOk rfl rfl rfl rfl (by omega) ?_
      | refine s_indexn tabOk rfl rfl rfl rfl (by omega) ?_
      | refine s_index1 tabOk rfl rfl rfl rfl (by omega) (by omega) ?_
      | refine sh_load tabOk (by assumption) rfl rfl rfl rfl (by repeat (first | exact List.Mem.head _ | apply List.Mem.tail)) (by rfl) (by rfl) ?_
      | refine sh_loada tabOk (by assumption) rfl rfl rfl rfl (by repeat (first | exact List.Mem.head _ | apply List.Mem.tail)) (by rfl) ?_
      | (refine sh_box (by assumption) rfl rfl rfl rfl rfl rfl ?_; intro _ _ _)
      | (refine sh_alloc tabOk (by assumption) rfl rfl rfl rfl rfl rfl ?_; intro _ _ _)
      | (refine sh_store tabOk (by assumption) rfl rfl rfl rfl rfl rfl (by repeat (first | exact Upd.here | apply Upd.there)) (by rfl) ?_; intro _ _)
      | (refine sh_lit tabOk (by assumption) rfl rfl rfl rfl rfl rfl rfl rfl rfl rfl rfl ?_; intro _ _ _)
      | refine sh_build tabOk rfl rfl rfl rfl rfl rfl ?_
      | refine rndh_ret ?_
      | refine rndh_exit ?_)
  · refine retK_ret tabOk (congrArg Array.toList Try.results56) (rv_tmp rfl rfl rv_nil) ?_
    exact ⟨by rw [if_pos (by omega)]; rfl, rfl⟩
  · refine retK_ret tabOk (congrArg Array.toList Try.results56) (rv_tmp rfl rfl rv_nil) ?_
    exact ⟨by rw [if_neg (by omega)]; rfl, rfl⟩
theorem set_push {α : Type} {xs : List α} {z d : α} {i n : Nat} (h : i < xs.length) (hn : n = xs.length - i) : ((xs.take i ++ List.replicate n z).set i (xs.getD i d)) = xs.take (i + 1) ++ List.replicate (n - 1) z := by
  subst hn
  apply List.ext_getElem?
  intro j
  simp only [List.getElem?_set, List.length_append, List.length_take, List.length_replicate]
  by_cases hj : i = j
  · subst hj
    rw [if_pos rfl, if_pos (by omega)]
    rw [List.getElem?_append_left (by simp; omega), List.getElem?_take, if_pos (by omega)]
    simp [List.getD_eq_getElem?_getD, h]
  · rw [if_neg hj]
    by_cases h1 : j < i
    · rw [List.getElem?_append_left (by simp; omega), List.getElem?_append_left (by simp; omega), List.getElem?_take, List.getElem?_take, if_pos h1, if_pos (by omega)]
    · rw [List.getElem?_append_right (by simp; omega), List.getElem?_append_right (by simp; omega), List.getElem?_replicate, List.getElem?_replicate]
      simp only [List.length_take]
      by_cases h2 : j < xs.length
      · rw [if_pos (by omega), if_pos (by omega)]
      · rw [if_neg (by omega), if_neg (by omega)]
theorem c_laws_toInt64S (hB : B ≤ W.heap.size) {v : Value} {xs : List Int} (hv : SlI W v xs) (hl : xs.length ≤ 1048576) :
    ACalls Try.prog B 19 [v] W (fun r W' => ∃ b, r = .slice (some ⟨b, 0, none⟩) xs.length xs.length ∧ Hp B W W' [.row 2 1 (.slice (some ⟨b, 0, none⟩) xs.length xs.length) xs.length (iC xs)]) := by
  obtain ⟨a, c, rfl, hac⟩ := hv.form
  have H0 : Hp B W W [] := Hp.new hB
  refine acalls_of Try.func19 rfl Try.ntmps19 (Nat.le_of_ble_eq_true rfl) ?_
  repeat' (first
      | refine s_pure tabOk rfl rfl rfl rfl ?_
      | refine aops_nil ?_
      | refine thn_normal ?_
      | refine aw_seq ?_
      | refine aw_reg ?_
      | refine s_pass rfl rfl rfl ?_
      | refine s_len tabOk rfl rfl rfl rfl ?_
      | refine aw_true rfl ?_
      | refine aw_false rfl ?_
      | refine aw_block ?_
      | refine aw_skip ?_
      | refine aw_exit ?_
      | refine blk_exit ?_
      | refine blk_exit_other rfl ?_
      | refine blk_normal ?_
      | refine thn_exit ?_
      | refine thn_ret ?_
      | refine blk_ret ?_
      | refine rnd_ret ?_
      | refine rnd_exit ?_
      | refine aw_ret ?_
      | refine s_arith tabOk rfl rfl rfl rfl (by simp only [InR]; omega) ?_
      | ((fail_if_success refine s_told rfl rfl ?_); refine s_part rfl rfl rfl ?_ ?_ <;> intro hc <;> (first | replace hc := of_decide_eq_true hc | replace hc := of_decide_eq_false hc | replace hc := eq_of_beq hc | simp only [Bool.not_eq_true', Bool.not_eq_false', Bool.and_eq_true, Bool.or_eq_true, Bool.or_eq_false_iff, Bool.not_true, Bool.not_false, decide_eq_true_eq, decide_eq_false_iff_not, Bool.and_eq_false_imp, bne_iff_ne, ne_eq, beq_iff_eq, beq_eq_false_iff_ne, bne_eq_false_iff_eq, bne_self_eq_false, not_true_eq_false, eq_self, Bool.true_eq_false, Bool.false_eq_true] at hc | skip))
      | (refine aw_if rfl ?_ ?_ <;> intro hc <;> (first | replace hc := of_decide_eq_true hc | replace hc := of_decide_eq_false hc | replace hc := eq_of_beq hc | simp only [Bool.not_eq_true', Bool.not_eq_false', Bool.and_eq_true, Bool.or_eq_true, Bool.or_eq_false_iff, Bool.not_true, Bool.not_false, decide_eq_true_eq, decide_eq_false_iff_not, Bool.and_eq_false_imp, bne_iff_ne, ne_eq, beq_iff_eq, beq_eq_false_iff_ne, bne_eq_false_iff_eq, bne_self_eq_false, not_true_eq_false, eq_self, Bool.true_eq_false, Bool.false_eq_true] at hc | skip))
      | refine s_index1n tabOk rfl rfl rfl rfl (by omega) ?_
      | refine s_indexn tabOk rfl rfl rfl rfl (by omega) ?_
      | refine s_index1 tabOk rfl rfl rfl rfl (by omega) (by omega) ?_
      | refine sh_load tabOk (by assumption) rfl rfl rfl rfl (by repeat (first | exact List.Mem.head _ | apply List.Mem.tail)) (by rfl) (by rfl) ?_
      | refine sh_loada tabOk (by assumption) rfl rfl rfl rfl (by repeat (first | exact List.Mem.head _ | apply List.Mem.tail)) (by rfl) ?_
      | (refine sh_box (by assumption) rfl rfl rfl rfl rfl rfl ?_; intro _ _ _)
      | (refine sh_alloc tabOk (by assumption) rfl rfl rfl rfl rfl rfl ?_; intro _ _ _)
      | (refine sh_store tabOk (by assumption) rfl rfl rfl rfl rfl rfl (by repeat (first | exact Upd.here | apply Upd.there)) (by rfl) ?_; intro _ _)
      | (refine sh_lit tabOk (by assumption) rfl rfl rfl rfl rfl rfl rfl rfl rfl rfl rfl ?_; intro _ _ _)
      | refine sh_build tabOk rfl rfl rfl rfl rfl rfl ?_
      | refine rndh_ret ?_
      | refine rndh_exit ?_)
  refine sh_make tabOk H0 rfl rfl rfl rfl rfl rfl rfl rfl rfl (by omega) rfl (by dsimp only; omega) (by omega) ?_
  intro b W1 H1
  simp only [Int.toNat_natCast] at H1 ⊢
  repeat' (first
      | refine s_pure tabOk rfl rfl rfl rfl ?_
      | refine aops_nil ?_
      | refine thn_normal ?_
      | refine aw_seq ?_
      | refine aw_reg ?_
      | refine s_pass rfl rfl rfl ?_
      | refine s_len tabOk rfl rfl rfl rfl ?_
      | refine aw_true rfl ?_
      | refine aw_false rfl ?_
      | refine aw_block ?_
      | refine aw_skip ?_
      | refine aw_exit ?_
      | refine blk_exit ?_
      | refine blk_exit_other rfl ?_
      | refine blk_normal ?_
      | refine thn_exit ?_
      | refine thn_ret ?_
      | refine blk_ret ?_
      | refine rnd_ret ?_
      | refine rnd_exit ?_
      | refine aw_ret ?_
      | refine s_arith tabOk rfl rfl rfl rfl (by simp only [InR]; omega) ?_
      | ((fail_if_success refine s_told rfl rfl ?_); refine s_part rfl rfl rfl ?_ ?_ <;> intro hc <;> (first | replace hc := of_decide_eq_true hc | replace hc := of_decide_eq_false hc | replace hc := eq_of_beq hc | simp only [Bool.not_eq_true', Bool.not_eq_false', Bool.and_eq_true, Bool.or_eq_true, Bool.or_eq_false_iff, Bool.not_true, Bool.not_false, decide_eq_true_eq, decide_eq_false_iff_not, Bool.and_eq_false_imp, bne_iff_ne, ne_eq, beq_iff_eq, beq_eq_false_iff_ne, bne_eq_false_iff_eq, bne_self_eq_false, not_true_eq_false, eq_self, Bool.true_eq_false, Bool.false_eq_true] at hc | skip))
      | (refine aw_if rfl ?_ ?_ <;> intro hc <;> (first | replace hc := of_decide_eq_true hc | replace hc := of_decide_eq_false hc | replace hc := eq_of_beq hc | simp only [Bool.not_eq_true', Bool.not_eq_false', Bool.and_eq_true, Bool.or_eq_true, Bool.or_eq_false_iff, Bool.not_true, Bool.not_false, decide_eq_true_eq, decide_eq_false_iff_not, Bool.and_eq_false_imp, bne_iff_ne, ne_eq, beq_iff_eq, beq_eq_false_iff_ne, bne_eq_false_iff_eq, bne_self_eq_false, not_true_eq_false, eq_self, Bool.true_eq_false, Bool.false_eq_true] at hc | skip))
      | refine s_index1n tabOk rfl rfl rfl rfl (by omega) ?_
      | refine s_indexn tabOk rfl rfl rfl rfl (by omega) ?_
      | refine s_index1 tabOk rfl rfl rfl rfl (by omega) (by omega) ?_
      | refine sh_load tabOk (by assumption) rfl rfl rfl rfl (by repeat (first | exact List.Mem.head _ | apply List.Mem.tail)) (by rfl) (by rfl) ?_
      | refine sh_loada tabOk (by assumption) rfl rfl rfl rfl (by repeat (first | exact List.Mem.head _ | apply List.Mem.tail)) (by rfl) ?_
      | (refine sh_box (by assumption) rfl rfl rfl rfl rfl rfl ?_; intro _ _ _)
      | (refine sh_alloc tabOk (by assumption) rfl rfl rfl rfl rfl rfl ?_; intro _ _ _)
      | (refine sh_store tabOk (by assumption) rfl rfl rfl rfl rfl rfl (by repeat (first | exact Upd.here | apply Upd.there)) (by rfl) ?_; intro _ _)
      | (refine sh_lit tabOk (by assumption) rfl rfl rfl rfl rfl rfl rfl rfl rfl rfl rfl ?_; intro _ _ _)
      | refine sh_build tabOk rfl rfl rfl rfl rfl rfl ?_
      | refine rndh_ret ?_
      | refine rndh_exit ?_)
  refine aw_loopH (fun i : Nat => [(4, .int .i64 i), (3, .slice (some ⟨b, 0, none⟩) xs.length xs.length), (0, .slice a xs.length c)])
    (fun i => [.row 2 1 (.slice (some ⟨b, 0, none⟩) xs.length xs.length) xs.length (iC (xs.take i ++ List.replicate (xs.length - i) 0))]) (fun i => i ≤ xs.length) (fun i => xs.length - i) 0 (by omega) (by simpa [iC] using H1) (by repeat (first | exact less_nil | refine less_cons rfl ?_)) ?_
  intro i W2 hi H2
  repeat' (first
      | refine s_pure tabOk rfl rfl rfl rfl ?_
      | refine aops_nil ?_
      | refine thn_normal ?_
      | refine aw_seq ?_
      | refine aw_reg ?_
      | refine s_pass rfl rfl rfl ?_
      | refine s_len tabOk rfl rfl rfl rfl ?_
      | refine aw_true rfl ?_
      | refine aw_false rfl ?_
      | refine aw_block ?_
      | refine aw_skip ?_
      | refine aw_exit ?_
      | refine blk_exit ?_
      | refine blk_exit_other rfl ?_
      | refine blk_normal ?_
      | refine thn_exit ?_
      | refine thn_ret ?_
      | refine blk_ret ?_
      | refine rnd_ret ?_
      | refine rnd_exit ?_
      | refine aw_ret ?_
      | refine s_arith tabOk rfl rfl rfl rfl (by simp only [InR]; omega) ?_
      | ((fail_if_success refine s_told rfl rfl ?_); refine s_part rfl rfl rfl ?_ ?_ <;> intro hc <;> (first | replace hc := of_decide_eq_true hc | replace hc := of_decide_eq_false hc | replace hc := eq_of_beq hc | simp only [Bool.not_eq_true', Bool.not_eq_false', Bool.and_eq_true, Bool.or_eq_true, Bool.or_eq_false_iff, Bool.not_true, Bool.not_false, decide_eq_true_eq, decide_eq_false_iff_not, Bool.and_eq_false_imp, bne_iff_ne, ne_eq, beq_iff_eq, beq_eq_false_iff_ne, bne_eq_false_iff_eq, bne_self_eq_false, not_true_eq_false, eq_self, Bool.true_eq_false, Bool.false_eq_true] at hc | skip))
      | (refine aw_if rfl ?_ ?_ <;> intro hc <;> (first | replace hc := of_decide_eq_true hc | replace hc := of_decide_eq_false hc | replace hc := eq_of_beq hc | simp only [Bool.not_eq_true', Bool.not_eq_false', Bool.and_eq_true, Bool.or_eq_true, Bool.or_eq_false_iff, Bool.not_true, Bool.not_false, decide_eq_true_eq, decide_eq_false_iff_not, Bool.and_eq_false_imp, bne_iff_ne, ne_eq, beq_iff_eq, beq_eq_false_iff_ne, bne_eq_false_iff_eq, bne_self_eq_false, not_true_eq_false, eq_self, Bool.true_eq_false, Bool.false_eq_true] at hc | skip))
      | refine s_index1n tabOk rfl rfl rfl rfl (by omega) ?_
      | refine s_indexn tabOk rfl rfl rfl rfl (by omega) ?_
      | refine s_index1 tabOk rfl rfl rfl rfl (by omega) (by omega) ?_
      | refine sh_load tabOk (by assumption) rfl rfl rfl rfl (by repeat (first | exact List.Mem.head _ | apply List.Mem.tail)) (by rfl) (by rfl) ?_
      | refine sh_loada tabOk (by assumption) rfl rfl rfl rfl (by repeat (first | exact List.Mem.head _ | apply List.Mem.tail)) (by rfl) ?_
      | (refine sh_box (by assumption) rfl rfl rfl rfl rfl rfl ?_; intro _ _ _)
      | (refine sh_alloc tabOk (by assumption) rfl rfl rfl rfl rfl rfl ?_; intro _ _ _)
      | (refine sh_store tabOk (by assumption) rfl rfl rfl rfl rfl rfl (by repeat (first | exact Upd.here | apply Upd.there)) (by rfl) ?_; intro _ _)
      | (refine sh_lit tabOk (by assumption) rfl rfl rfl rfl rfl rfl rfl rfl rfl rfl rfl ?_; intro _ _ _)
      | refine sh_build tabOk rfl rfl rfl rfl rfl rfl ?_
      | refine rndh_ret ?_
      | refine rndh_exit ?_)
  · obtain ⟨b', off, rfl, hr⟩ := hv.read (by omega)
    repeat' (first
      | refine s_pure tabOk rfl rfl rfl rfl ?_
      | refine aops_nil ?_
      | refine thn_normal ?_
      | refine aw_seq ?_
      | refine aw_reg ?_
      | refine s_pass rfl rfl rfl ?_
      | refine s_len tabOk rfl rfl rfl rfl ?_
      | refine aw_true rfl ?_
      | refine aw_false rfl ?_
      | refine aw_block ?_
      | refine aw_skip ?_
      | refine aw_exit ?_
      | refine blk_exit ?_
      | refine blk_exit_other rfl ?_
      | refine blk_normal ?_
      | refine thn_exit ?_
      | refine thn_ret ?_
      | refine blk_ret ?_
      | refine rnd_ret ?_
      | refine rnd_exit ?_
      | refine aw_ret ?_
      | refine s_arith tabOk rfl rfl rfl rfl (by simp only [InR]; omega) ?_
      | ((fail_if_success refine s_told rfl rfl ?_); refine s_part rfl rfl rfl ?_ ?_ <;> intro hc <;> (first | replace hc := of_decide_eq_true hc | replace hc := of_decide_eq_false hc | replace hc := eq_of_beq hc | simp only [Bool.not_eq_true', Bool.not_eq_false', Bool.and_eq_true, Bool.or_eq_true, Bool.or_eq_false_iff, Bool.not_true, Bool.not_false, decide_eq_true_eq, decide_eq_false_iff_not, Bool.and_eq_false_imp, bne_iff_ne, ne_eq, beq_iff_eq, beq_eq_false_iff_ne, bne_eq_false_iff_eq, bne_self_eq_false, not_true_eq_false, eq_self, Bool.true_eq_false, Bool.false_eq_true] at hc | skip))
      | (refine aw_if rfl ?_ ?_ <;> intro hc <;> (first | replace hc := of_decide_eq_true hc | replace hc := of_decide_eq_false hc | replace hc := eq_of_beq hc | simp only [Bool.not_eq_true', Bool.not_eq_false', Bool.and_eq_true, Bool.or_eq_true, Bool.or_eq_false_iff, Bool.not_true, Bool.not_false, decide_eq_true_eq, decide_eq_false_iff_not, Bool.and_eq_false_imp, bne_iff_ne, ne_eq, beq_iff_eq, beq_eq_false_iff_ne, bne_eq_false_iff_eq, bne_self_eq_false, not_true_eq_false, eq_self, Bool.true_eq_false, Bool.false_eq_true] at hc | skip))
      | refine s_index1n tabOk rfl rfl rfl rfl (by omega) ?_
      | refine s_indexn tabOk rfl rfl rfl rfl (by omega) ?_
      | refine s_index1 tabOk rfl rfl rfl rfl (by omega) (by omega) ?_
      | refine sh_load tabOk (by assumption) rfl rfl rfl rfl (by repeat (first | exact List.Mem.head _ | apply List.Mem.tail)) (by rfl) (by rfl) ?_
      | refine sh_loada tabOk (by assumption) rfl rfl rfl rfl (by repeat (first | exact List.Mem.head _ | apply List.Mem.tail)) (by rfl) ?_
      | (refine sh_box (by assumption) rfl rfl rfl rfl rfl rfl ?_; intro _ _ _)
      | (refine sh_alloc tabOk (by assumption) rfl rfl rfl rfl rfl rfl ?_; intro _ _ _)
      | (refine sh_store tabOk (by assumption) rfl rfl rfl rfl rfl rfl (by repeat (first | exact Upd.here | apply Upd.there)) (by rfl) ?_; intro _ _)
      | (refine sh_lit tabOk (by assumption) rfl rfl rfl rfl rfl rfl rfl rfl rfl rfl rfl ?_; intro _ _ _)
      | refine sh_build tabOk rfl rfl rfl rfl rfl rfl ?_
      | refine rndh_ret ?_
      | refine rndh_exit ?_)
    refine sh_readT tabOk 0 rfl rfl rfl rfl (H2.rd hr) rfl (by omega) ?_
    repeat' (first
      | refine s_pure tabOk rfl rfl rfl rfl ?_
      | refine aops_nil ?_
      | refine thn_normal ?_
      | refine aw_seq ?_
      | refine aw_reg ?_
      | refine s_pass rfl rfl rfl ?_
      | refine s_len tabOk rfl rfl rfl rfl ?_
      | refine aw_true rfl ?_
      | refine aw_false rfl ?_
      | refine aw_block ?_
      | refine aw_skip ?_
      | refine aw_exit ?_
      | refine blk_exit ?_
      | refine blk_exit_other rfl ?_
      | refine blk_normal ?_
      | refine thn_exit ?_
      | refine thn_ret ?_
      | refine blk_ret ?_
      | refine rnd_ret ?_
      | refine rnd_exit ?_
      | refine aw_ret ?_
      | refine s_arith tabOk rfl rfl rfl rfl (by simp only [InR]; omega) ?_
      | ((fail_if_success refine s_told rfl rfl ?_); refine s_part rfl rfl rfl ?_ ?_ <;> intro hc <;> (first | replace hc := of_decide_eq_true hc | replace hc := of_decide_eq_false hc | replace hc := eq_of_beq hc | simp only [Bool.not_eq_true', Bool.not_eq_false', Bool.and_eq_true, Bool.or_eq_true, Bool.or_eq_false_iff, Bool.not_true, Bool.not_false, decide_eq_true_eq, decide_eq_false_iff_not, Bool.and_eq_false_imp, bne_iff_ne, ne_eq, beq_iff_eq, beq_eq_false_iff_ne, bne_eq_false_iff_eq, bne_self_eq_false, not_true_eq_false, eq_self, Bool.true_eq_false, Bool.false_eq_true] at hc | skip))
      | (refine aw_if rfl ?_ ?_ <;> intro hc <;> (first | replace hc := of_decide_eq_true hc | replace hc := of_decide_eq_false hc | replace hc := eq_of_beq hc | simp only [Bool.not_eq_true', Bool.not_eq_false', Bool.and_eq_true, Bool.or_eq_true, Bool.or_eq_false_iff, Bool.not_true, Bool.not_false, decide_eq_true_eq, decide_eq_false_iff_not, Bool.and_eq_false_imp, bne_iff_ne, ne_eq, beq_iff_eq, beq_eq_false_iff_ne, bne_eq_false_iff_eq, bne_self_eq_false, not_true_eq_false, eq_self, Bool.true_eq_false, Bool.false_eq_true] at hc | skip))
      | refine s_index1n tabOk rfl rfl rfl rfl (by omega) ?_
      | refine s_indexn tabOk rfl rfl rfl rfl (by omega) ?_
      | refine s_index1 tabOk rfl rfl rfl rfl (by omega) (by omega) ?_
      | refine sh_load tabOk (by assumption) rfl rfl rfl rfl (by repeat (first | exact List.Mem.head _ | apply List.Mem.tail)) (by rfl) (by rfl) ?_
      | refine sh_loada tabOk (by assumption) rfl rfl rfl rfl (by repeat (first | exact List.Mem.head _ | apply List.Mem.tail)) (by rfl) ?_
      | (refine sh_box (by assumption) rfl rfl rfl rfl rfl rfl ?_; intro _ _ _)
      | (refine sh_alloc tabOk (by assumption) rfl rfl rfl rfl rfl rfl ?_; intro _ _ _)
      | (refine sh_store tabOk (by assumption) rfl rfl rfl rfl rfl rfl (by repeat (first | exact Upd.here | apply Upd.there)) (by rfl) ?_; intro _ _)
      | (refine sh_lit tabOk (by assumption) rfl rfl rfl rfl rfl rfl rfl rfl rfl rfl rfl ?_; intro _ _ _)
      | refine sh_build tabOk rfl rfl rfl rfl rfl rfl ?_
      | refine rndh_ret ?_
      | refine rndh_exit ?_)
    simp only [Nat.zero_add]
    refine sh_storeT tabOk (.int .i64) H2 rfl rfl rfl rfl rfl rfl (by repeat (first | exact Upd.here | apply Upd.there)) (by simp; omega) ?_
    intro W3 H3
    rw [set_push (by omega) rfl] at H3
    repeat' (first
      | refine s_pure tabOk rfl rfl rfl rfl ?_
      | refine aops_nil ?_
      | refine thn_normal ?_
      | refine aw_seq ?_
      | refine aw_reg ?_
      | refine s_pass rfl rfl rfl ?_
      | refine s_len tabOk rfl rfl rfl rfl ?_
      | refine aw_true rfl ?_
      | refine aw_false rfl ?_
      | refine aw_block ?_
      | refine aw_skip ?_
      | refine aw_exit ?_
      | refine blk_exit ?_
      | refine blk_exit_other rfl ?_
      | refine blk_normal ?_
      | refine thn_exit ?_
      | refine thn_ret ?_
      | refine blk_ret ?_
      | refine rnd_ret ?_
      | refine rnd_exit ?_
      | refine aw_ret ?_
      | refine s_arith tabOk rfl rfl rfl rfl (by simp only [InR]; omega) ?_
      | ((fail_if_success refine s_told rfl rfl ?_); refine s_part rfl rfl rfl ?_ ?_ <;> intro hc <;> (first | replace hc := of_decide_eq_true hc | replace hc := of_decide_eq_false hc | replace hc := eq_of_beq hc | simp only [Bool.not_eq_true', Bool.not_eq_false', Bool.and_eq_true, Bool.or_eq_true, Bool.or_eq_false_iff, Bool.not_true, Bool.not_false, decide_eq_true_eq, decide_eq_false_iff_not, Bool.and_eq_false_imp, bne_iff_ne, ne_eq, beq_iff_eq, beq_eq_false_iff_ne, bne_eq_false_iff_eq, bne_self_eq_false, not_true_eq_false, eq_self, Bool.true_eq_false, Bool.false_eq_true] at hc | skip))
      | (refine aw_if rfl ?_ ?_ <;> intro hc <;> (first | replace hc := of_decide_eq_true hc | replace hc := of_decide_eq_false hc | replace hc := eq_of_beq hc | simp only [Bool.not_eq_true', Bool.not_eq_false', Bool.and_eq_true, Bool.or_eq_true, Bool.or_eq_false_iff, Bool.not_true, Bool.not_false, decide_eq_true_eq, decide_eq_false_iff_not, Bool.and_eq_false_imp, bne_iff_ne, ne_eq, beq_iff_eq, beq_eq_false_iff_ne, bne_eq_false_iff_eq, bne_self_eq_false, not_true_eq_false, eq_self, Bool.true_eq_false, Bool.false_eq_true] at hc | skip))
      | refine s_index1n tabOk rfl rfl rfl rfl (by omega) ?_
      | refine s_indexn tabOk rfl rfl rfl rfl (by omega) ?_
      | refine s_index1 tabOk rfl rfl rfl rfl (by omega) (by omega) ?_
      | refine sh_load tabOk (by assumption) rfl rfl rfl rfl (by repeat (first | exact List.Mem.head _ | apply List.Mem.tail)) (by rfl) (by rfl) ?_
      | refine sh_loada tabOk (by assumption) rfl rfl rfl rfl (by repeat (first | exact List.Mem.head _ | apply List.Mem.tail)) (by rfl) ?_
      | (refine sh_box (by assumption) rfl rfl rfl rfl rfl rfl ?_; intro _ _ _)
      | (refine sh_alloc tabOk (by assumption) rfl rfl rfl rfl rfl rfl ?_; intro _ _ _)
      | (refine sh_store tabOk (by assumption) rfl rfl rfl rfl rfl rfl (by repeat (first | exact Upd.here | apply Upd.there)) (by rfl) ?_; intro _ _)
      | (refine sh_lit tabOk (by assumption) rfl rfl rfl rfl rfl rfl rfl rfl rfl rfl rfl ?_; intro _ _ _)
      | refine sh_build tabOk rfl rfl rfl rfl rfl rfl ?_
      | refine rndh_ret ?_
      | refine rndh_exit ?_)
    refine rndh_next (i + 1) (by omega) (by omega) (by repeat (first | exact less_nil | refine less_cons rfl ?_)) ?_
    rwa [show xs.length - (i + 1) = xs.length - i - 1 by omega]
  · have : i = xs.length := by omega
    subst this
    refine retK_ret tabOk (congrArg Array.toList Try.results19) (rv_tmp rfl rfl rv_nil) ?_
    refine ⟨b, rfl, ?_⟩
    simpa using H2
theorem c_laws_eqInt64S {v v' : Value} {xs : List Int} (hv : SlI W v xs) (hv' : SlI W v' xs) (hl : xs.length ≤ 1048576) : ACalls Try.prog B 21 [v, v'] W (fun r W' => r = .bool true ∧ W' = W) := by
  obtain ⟨a, c, rfl, hac⟩ := hv.form
  obtain ⟨a', c', rfl, hac'⟩ := hv'.form
  refine acalls_of Try.func21 rfl Try.ntmps21 (Nat.le_of_ble_eq_true rfl) ?_
  repeat' (first
      | refine s_pure tabOk rfl rfl rfl rfl ?_
      | refine aops_nil ?_
      | refine thn_normal ?_
      | refine aw_seq ?_
      | refine aw_reg ?_
      | refine s_pass rfl rfl rfl ?_
      | refine s_len tabOk rfl rfl rfl rfl ?_
      | refine aw_true rfl ?_
      | refine aw_false rfl ?_
      | refine aw_block ?_
      | refine aw_skip ?_
      | refine aw_exit ?_
      | refine blk_exit ?_
      | refine blk_exit_other rfl ?_
      | refine blk_normal ?_
      | refine thn_exit ?_
      | refine thn_ret ?_
      | refine blk_ret ?_
      | refine rnd_ret ?_
      | refine rnd_exit ?_
      | refine aw_ret ?_
      | refine s_arith tabOk rfl rfl rfl rfl (by simp only [InR]; omega) ?_
      | ((fail_if_success refine s_told rfl rfl ?_); refine s_part rfl rfl rfl ?_ ?_ <;> intro hc <;> (first | replace hc := of_decide_eq_true hc | replace hc := of_decide_eq_false hc | replace hc := eq_of_beq hc | simp only [Bool.not_eq_true', Bool.not_eq_false', Bool.and_eq_true, Bool.or_eq_true, Bool.or_eq_false_iff, Bool.not_true, Bool.not_false, decide_eq_true_eq, decide_eq_false_iff_not, Bool.and_eq_false_imp, bne_iff_ne, ne_eq, beq_iff_eq, beq_eq_false_iff_ne, bne_eq_false_iff_eq, bne_self_eq_false, not_true_eq_false, eq_self, Bool.true_eq_false, Bool.false_eq_true] at hc | skip))
      | (refine aw_if rfl ?_ ?_ <;> intro hc <;> (first | replace hc := of_decide_eq_true hc | replace hc := of_decide_eq_false hc | replace hc := eq_of_beq hc | simp only [Bool.not_eq_true', Bool.not_eq_false', Bool.and_eq_true, Bool.or_eq_true, Bool.or_eq_false_iff, Bool.not_true, Bool.not_false, decide_eq_true_eq, decide_eq_false_iff_not, Bool.and_eq_false_imp, bne_iff_ne, ne_eq, beq_iff_eq, beq_eq_false_iff_ne, bne_eq_false_iff_eq, bne_self_eq_false, not_true_eq_false, eq_self, Bool.true_eq_false, Bool.false_eq_true] at hc | skip))
      | refine s_index1n tabOk rfl rfl rfl rfl (by omega) ?_
      | refine s_indexn tabOk rfl rfl rfl rfl (by omega) ?_
      | refine s_index1 tabOk rfl rfl rfl rfl (by omega) (by omega) ?_
      | refine sh_load tabOk (by assumption) rfl rfl rfl rfl (by repeat (first | exact List.Mem.head _ | apply List.Mem.tail)) (by rfl) (by rfl) ?_
      | refine sh_loada tabOk (by assumption) rfl rfl rfl rfl (by repeat (first | exact List.Mem.head _ | apply List.Mem.tail)) (by rfl) ?_
      | (refine sh_box (by assumption) rfl rfl rfl rfl rfl rfl ?_; intro _ _ _)
      | (refine sh_alloc tabOk (by assumption) rfl rfl rfl rfl rfl rfl ?_; intro _ _ _)
      | (refine sh_store tabOk (by assumption) rfl rfl rfl rfl rfl rfl (by repeat (first | exact Upd.here | apply Upd.there)) (by rfl) ?_; intro _ _)
      | (refine sh_lit tabOk (by assumption) rfl rfl rfl rfl rfl rfl rfl rfl rfl rfl rfl ?_; intro _ _ _)
      | refine sh_build tabOk rfl rfl rfl rfl rfl rfl ?_
      | refine rndh_ret ?_
      | refine rndh_exit ?_)
  refine aw_loop (fun i : Nat => [(5, .int .i64 i), (0, .slice a xs.length c), (1, .slice a' xs.length c')]) (fun _ => W) (fun i => i ≤ xs.length) (fun i => xs.length - i) 0 (by omega) (by repeat (first | exact less_nil | refine less_cons rfl ?_)) rfl ?_
  intro i hi
  repeat' (first
      | refine s_pure tabOk rfl rfl rfl rfl ?_
      | refine aops_nil ?_
      | refine thn_normal ?_
      | refine aw_seq ?_
      | refine aw_reg ?_
      | refine s_pass rfl rfl rfl ?_
      | refine s_len tabOk rfl rfl rfl rfl ?_
      | refine aw_true rfl ?_
      | refine aw_false rfl ?_
      | refine aw_block ?_
      | refine aw_skip ?_
      | refine aw_exit ?_
      | refine blk_exit ?_
      | refine blk_exit_other rfl ?_
      | refine blk_normal ?_
      | refine thn_exit ?_
      | refine thn_ret ?_
      | refine blk_ret ?_
      | refine rnd_ret ?_
      | refine rnd_exit ?_
      | refine aw_ret ?_
      | refine s_arith tabOk rfl rfl rfl rfl (by simp only [InR]; omega) ?_
      | ((fail_if_success refine s_told rfl rfl ?_); refine s_part rfl rfl rfl ?_ ?_ <;> intro hc <;> (first | replace hc := of_decide_eq_true hc | replace hc := of_decide_eq_false hc | replace hc := eq_of_beq hc | simp only [Bool.not_eq_true', Bool.not_eq_false', Bool.and_eq_true, Bool.or_eq_true, Bool.or_eq_false_iff, Bool.not_true, Bool.not_false, decide_eq_true_eq, decide_eq_false_iff_not, Bool.and_eq_false_imp, bne_iff_ne, ne_eq, beq_iff_eq, beq_eq_false_iff_ne, bne_eq_false_iff_eq, bne_self_eq_false, not_true_eq_false, eq_self, Bool.true_eq_false, Bool.false_eq_true] at hc | skip))
      | (refine aw_if rfl ?_ ?_ <;> intro hc <;> (first | replace hc := of_decide_eq_true hc | replace hc := of_decide_eq_false hc | replace hc := eq_of_beq hc | simp only [Bool.not_eq_true', Bool.not_eq_false', Bool.and_eq_true, Bool.or_eq_true, Bool.or_eq_false_iff, Bool.not_true, Bool.not_false, decide_eq_true_eq, decide_eq_false_iff_not, Bool.and_eq_false_imp, bne_iff_ne, ne_eq, beq_iff_eq, beq_eq_false_iff_ne, bne_eq_false_iff_eq, bne_self_eq_false, not_true_eq_false, eq_self, Bool.true_eq_false, Bool.false_eq_true] at hc | skip))
      | refine s_index1n tabOk rfl rfl rfl rfl (by omega) ?_
      | refine s_indexn tabOk rfl rfl rfl rfl (by omega) ?_
      | refine s_index1 tabOk rfl rfl rfl rfl (by omega) (by omega) ?_
      | refine sh_load tabOk (by assumption) rfl rfl rfl rfl (by repeat (first | exact List.Mem.head _ | apply List.Mem.tail)) (by rfl) (by rfl) ?_
      | refine sh_loada tabOk (by assumption) rfl rfl rfl rfl (by repeat (first | exact List.Mem.head _ | apply List.Mem.tail)) (by rfl) ?_
      | (refine sh_box (by assumption) rfl rfl rfl rfl rfl rfl ?_; intro _ _ _)
      | (refine sh_alloc tabOk (by assumption) rfl rfl rfl rfl rfl rfl ?_; intro _ _ _)
      | (refine sh_store tabOk (by assumption) rfl rfl rfl rfl rfl rfl (by repeat (first | exact Upd.here | apply Upd.there)) (by rfl) ?_; intro _ _)
      | (refine sh_lit tabOk (by assumption) rfl rfl rfl rfl rfl rfl rfl rfl rfl rfl rfl ?_; intro _ _ _)
      | refine sh_build tabOk rfl rfl rfl rfl rfl rfl ?_
      | refine rndh_ret ?_
      | refine rndh_exit ?_)
  · obtain ⟨b, off, rfl, hr⟩ := hv.read (by omega)
    obtain ⟨b', off', rfl, hr'⟩ := hv'.read (by omega)
    refine aw_quiet followsMixed (by first | exact lax_thn | exact lax_blk lax_thn | exact lax_rnd | exact lax_blk lax_rnd | exact lax_rndh | exact lax_blk lax_rndh | exact lax_mid) (by kernel_rfl) ?_; repeat (first
      | refine q_pure tabOk rfl rfl rfl rfl ?_
      | refine q_len tabOk rfl rfl rfl rfl ?_
      | refine q_pass rfl rfl rfl ?_
      | refine q_index1n tabOk rfl rfl rfl rfl (by omega) ?_
      | refine q_indexn tabOk rfl rfl rfl rfl (by omega) ?_
      | refine q_index1 tabOk rfl rfl rfl rfl (by omega) (by omega) ?_
      | refine q_arith tabOk rfl rfl rfl rfl (by simp only [InR]; omega) ?_)
    refine q_readT tabOk 0 rfl rfl rfl rfl hr rfl (by omega) ?_
    repeat (first
      | refine q_pure tabOk rfl rfl rfl rfl ?_
      | refine q_len tabOk rfl rfl rfl rfl ?_
      | refine q_pass rfl rfl rfl ?_
      | refine q_index1n tabOk rfl rfl rfl rfl (by omega) ?_
      | refine q_indexn tabOk rfl rfl rfl rfl (by omega) ?_
      | refine q_index1 tabOk rfl rfl rfl rfl (by omega) (by omega) ?_
      | refine q_arith tabOk rfl rfl rfl rfl (by simp only [InR]; omega) ?_)
    refine q_readT tabOk 0 rfl rfl rfl rfl hr' rfl (by omega) ?_
    repeat (first
      | refine q_pure tabOk rfl rfl rfl rfl ?_
      | refine q_len tabOk rfl rfl rfl rfl ?_
      | refine q_pass rfl rfl rfl ?_
      | refine q_index1n tabOk rfl rfl rfl rfl (by omega) ?_
      | refine q_indexn tabOk rfl rfl rfl rfl (by omega) ?_
      | refine q_index1 tabOk rfl rfl rfl rfl (by omega) (by omega) ?_
      | refine q_arith tabOk rfl rfl rfl rfl (by simp only [InR]; omega) ?_)
    refine aq_nil ?_
    repeat' (first
      | refine s_pure tabOk rfl rfl rfl rfl ?_
      | refine aops_nil ?_
      | refine thn_normal ?_
      | refine aw_seq ?_
      | refine aw_reg ?_
      | refine s_pass rfl rfl rfl ?_
      | refine s_len tabOk rfl rfl rfl rfl ?_
      | refine aw_true rfl ?_
      | refine aw_false rfl ?_
      | refine aw_block ?_
      | refine aw_skip ?_
      | refine aw_exit ?_
      | refine blk_exit ?_
      | refine blk_exit_other rfl ?_
      | refine blk_normal ?_
      | refine thn_exit ?_
      | refine thn_ret ?_
      | refine blk_ret ?_
      | refine rnd_ret ?_
      | refine rnd_exit ?_
      | refine aw_ret ?_
      | refine s_arith tabOk rfl rfl rfl rfl (by simp only [InR]; omega) ?_
      | ((fail_if_success refine s_told rfl rfl ?_); refine s_part rfl rfl rfl ?_ ?_ <;> intro hc <;> (first | replace hc := of_decide_eq_true hc | replace hc := of_decide_eq_false hc | replace hc := eq_of_beq hc | simp only [Bool.not_eq_true', Bool.not_eq_false', Bool.and_eq_true, Bool.or_eq_true, Bool.or_eq_false_iff, Bool.not_true, Bool.not_false, decide_eq_true_eq, decide_eq_false_iff_not, Bool.and_eq_false_imp, bne_iff_ne, ne_eq, beq_iff_eq, beq_eq_false_iff_ne, bne_eq_false_iff_eq, bne_self_eq_false, not_true_eq_false, eq_self, Bool.true_eq_false, Bool.false_eq_true] at hc | skip))
      | (refine aw_if rfl ?_ ?_ <;> intro hc <;> (first | replace hc := of_decide_eq_true hc | replace hc := of_decide_eq_false hc | replace hc := eq_of_beq hc | simp only [Bool.not_eq_true', Bool.not_eq_false', Bool.and_eq_true, Bool.or_eq_true, Bool.or_eq_false_iff, Bool.not_true, Bool.not_false, decide_eq_true_eq, decide_eq_false_iff_not, Bool.and_eq_false_imp, bne_iff_ne, ne_eq, beq_iff_eq, beq_eq_false_iff_ne, bne_eq_false_iff_eq, bne_self_eq_false, not_true_eq_false, eq_self, Bool.true_eq_false, Bool.false_eq_true] at hc | skip))
      | refine s_index1n tabOk rfl rfl rfl rfl (by omega) ?_
      | refine s_indexn tabOk rfl rfl rfl rfl (by omega) ?_
      | refine s_index1 tabOk rfl rfl rfl rfl (by omega) (by omega) ?_
      | refine sh_load tabOk (by assumption) rfl rfl rfl rfl (by repeat (first | exact List.Mem.head _ | apply List.Mem.tail)) (by rfl) (by rfl) ?_
      | refine sh_loada tabOk (by assumption) rfl rfl rfl rfl (by repeat (first | exact List.Mem.head _ | apply List.Mem.tail)) (by rfl) ?_
      | (refine sh_box (by assumption) rfl rfl rfl rfl rfl rfl ?_; intro _ _ _)
      | (refine sh_alloc tabOk (by assumption) rfl rfl rfl rfl rfl rfl ?_; intro _ _ _)
      | (refine sh_store tabOk (by assumption) rfl rfl rfl rfl rfl rfl (by repeat (first | exact Upd.here | apply Upd.there)) (by rfl) ?_; intro _ _)
      | (refine sh_lit tabOk (by assumption) rfl rfl rfl rfl rfl rfl rfl rfl rfl rfl rfl ?_; intro _ _ _)
      | refine sh_build tabOk rfl rfl rfl rfl rfl rfl ?_
      | refine rndh_ret ?_
      | refine rndh_exit ?_)
    refine rnd_next (i + 1) (by omega) (by omega) (by repeat (first | exact less_nil | refine less_cons rfl ?_)) rfl
  · refine retK_ret tabOk (congrArg Array.toList Try.results21) (rv_tmp rfl rfl rv_nil) ?_
    exact ⟨rfl, rfl⟩
/-! ### marks -/
def mkI (n : Int) (i : Nat) : List Int := (List.range i).map fun j : Nat => n + (j : Int)
theorem mkI_len (n : Int) (i : Nat) : (mkI n i).length = i := by simp [mkI]
theorem mkI_succ (n : Int) (i : Nat) : mkI n (i + 1) = mkI n i ++ [n + i] := by simp [mkI, List.range_succ]
theorem mkI_get (n : Int) {i j : Nat} (h : j < i) : (mkI n i).getD j 0 = n + j := by simp [mkI, List.getD_eq_getElem?_getD, h]
theorem set_mark {α : Type} {ms xs : List α} {i : Nat} (hm : ms.length = i) (h : i < xs.length) (y : α) : (ms ++ xs.drop i).set i y = (ms ++ [y]) ++ xs.drop (i + 1) := by
  subst hm
  rw [List.set_append, if_neg (by omega), Nat.sub_self, List.drop_eq_getElem_cons h, List.set_cons_zero, List.append_assoc]
  rfl
theorem hc_laws_markInt64S {v : Value} {nn : Nat} {xs : List Int} {n : Int} (H : Hp B A W L) (hU : Upd L (.row 2 1 v nn (iC xs)) (.row 2 1 v nn (iC (mkI n xs.length))) L') (hl : xs.length ≤ 1048576) (h0 : 0 ≤ n) (h1 : n ≤ 1099511627776) :
    ACalls Try.prog B 22 [v, .int .i64 n] W (fun r W' => r = .int .i64 (n + xs.length) ∧ Hp B A W' L') := by
  have hm := hU.mem
  obtain ⟨a, c, rfl, -⟩ := H.row_form hm
  have hnn : nn = xs.length := by have := H.row_len hm; simp at this; omega
  subst hnn
  have hup : ∀ y z : List Value, ∃ L1, Upd L (.row 2 1 (.slice a xs.length c) xs.length y) (.row 2 1 (.slice a xs.length c) xs.length z) L1 → True := fun _ _ => ⟨L, fun _ => trivial⟩
  clear hup
  obtain ⟨la, lb, rfl, rfl⟩ := hU.split
  refine acalls_of Try.func22 rfl Try.ntmps22 (Nat.le_of_ble_eq_true rfl) ?_
  repeat' (first
      | refine s_pure tabOk rfl rfl rfl rfl ?_
      | refine aops_nil ?_
      | refine thn_normal ?_
      | refine aw_seq ?_
      | refine aw_reg ?_
      | refine s_pass rfl rfl rfl ?_
      | refine s_len tabOk rfl rfl rfl rfl ?_
      | refine aw_true rfl ?_
      | refine aw_false rfl ?_
      | refine aw_block ?_
      | refine aw_skip ?_
      | refine aw_exit ?_
      | refine blk_exit ?_
      | refine blk_exit_other rfl ?_
      | refine blk_normal ?_
      | refine thn_exit ?_
      | refine thn_ret ?_
      | refine blk_ret ?_
      | refine rnd_ret ?_
      | refine rnd_exit ?_
      | refine aw_ret ?_
      | refine s_arith tabOk rfl rfl rfl rfl (by simp only [InR]; omega) ?_
      | ((fail_if_success refine s_told rfl rfl ?_); refine s_part rfl rfl rfl ?_ ?_ <;> intro hc <;> (first | replace hc := of_decide_eq_true hc | replace hc := of_decide_eq_false hc | replace hc := eq_of_beq hc | simp only [Bool.not_eq_true', Bool.not_eq_false', Bool.and_eq_true, Bool.or_eq_true, Bool.or_eq_false_iff, Bool.not_true, Bool.not_false, decide_eq_true_eq, decide_eq_false_iff_not, Bool.and_eq_false_imp, bne_iff_ne, ne_eq, beq_iff_eq, beq_eq_false_iff_ne, bne_eq_false_iff_eq, bne_self_eq_false, not_true_eq_false, eq_self, Bool.true_eq_false, Bool.false_eq_true] at hc | skip))
      | (refine aw_if rfl ?_ ?_ <;> intro hc <;> (first | replace hc := of_decide_eq_true hc | replace hc := of_decide_eq_false hc | replace hc := eq_of_beq hc | simp only [Bool.not_eq_true', Bool.not_eq_false', Bool.and_eq_true, Bool.or_eq_true, Bool.or_eq_false_iff, Bool.not_true, Bool.not_false, decide_eq_true_eq, decide_eq_false_iff_not, Bool.and_eq_false_imp, bne_iff_ne, ne_eq, beq_iff_eq, beq_eq_false_iff_ne, bne_eq_false_iff_eq, bne_self_eq_false, not_true_eq_false, eq_self, Bool.true_eq_false, Bool.false_eq_true] at hc | skip))
      | refine s_index1n tabOk rfl rfl rfl rfl (by omega) ?_
      | refine s_indexn tabOk rfl rfl rfl rfl (by omega) ?_
      | refine s_index1 tabOk rfl rfl rfl rfl (by omega) (by omega) ?_
      | refine sh_load tabOk (by assumption) rfl rfl rfl rfl (by repeat (first | exact List.Mem.head _ | apply List.Mem.tail)) (by rfl) (by rfl) ?_
      | refine sh_loada tabOk (by assumption) rfl rfl rfl rfl (by repeat (first | exact List.Mem.head _ | apply List.Mem.tail)) (by rfl) ?_
      | (refine sh_box (by assumption) rfl rfl rfl rfl rfl rfl ?_; intro _ _ _)
      | (refine sh_alloc tabOk (by assumption) rfl rfl rfl rfl rfl rfl ?_; intro _ _ _)
      | (refine sh_store tabOk (by assumption) rfl rfl rfl rfl rfl rfl (by repeat (first | exact Upd.here | apply Upd.there)) (by rfl) ?_; intro _ _)
      | (refine sh_lit tabOk (by assumption) rfl rfl rfl rfl rfl rfl rfl rfl rfl rfl rfl ?_; intro _ _ _)
      | refine sh_build tabOk rfl rfl rfl rfl rfl rfl ?_
      | refine rndh_ret ?_
      | refine rndh_exit ?_)
  refine aw_loopH (fun i : Nat => [(5, .int .i64 i), (1, .int .i64 (n + i)), (0, .slice a xs.length c)])
    (fun i => la ++ .row 2 1 (.slice a xs.length c) xs.length (iC (mkI n i ++ xs.drop i)) :: lb) (fun i => i ≤ xs.length) (fun i => xs.length - i) 0 (by omega) (by simpa [mkI] using H) (by rw [show n + ((0 : Nat) : Int) = n by omega]; exact (by repeat (first | exact less_nil | refine less_cons rfl ?_))) ?_
  intro i W2 hi H2
  repeat' (first
      | refine s_pure tabOk rfl rfl rfl rfl ?_
      | refine aops_nil ?_
      | refine thn_normal ?_
      | refine aw_seq ?_
      | refine aw_reg ?_
      | refine s_pass rfl rfl rfl ?_
      | refine s_len tabOk rfl rfl rfl rfl ?_
      | refine aw_true rfl ?_
      | refine aw_false rfl ?_
      | refine aw_block ?_
      | refine aw_skip ?_
      | refine aw_exit ?_
      | refine blk_exit ?_
      | refine blk_exit_other rfl ?_
      | refine blk_normal ?_
      | refine thn_exit ?_
      | refine thn_ret ?_
      | refine blk_ret ?_
      | refine rnd_ret ?_
      | refine rnd_exit ?_
      | refine aw_ret ?_
      | refine s_arith tabOk rfl rfl rfl rfl (by simp only [InR]; omega) ?_
      | ((fail_if_success refine s_told rfl rfl ?_); refine s_part rfl rfl rfl ?_ ?_ <;> intro hc <;> (first | replace hc := of_decide_eq_true hc | replace hc := of_decide_eq_false hc | replace hc := eq_of_beq hc | simp only [Bool.not_eq_true', Bool.not_eq_false', Bool.and_eq_true, Bool.or_eq_true, Bool.or_eq_false_iff, Bool.not_true, Bool.not_false, decide_eq_true_eq, decide_eq_false_iff_not, Bool.and_eq_false_imp, bne_iff_ne, ne_eq, beq_iff_eq, beq_eq_false_iff_ne, bne_eq_false_iff_eq, bne_self_eq_false, not_true_eq_false, eq_self, Bool.true_eq_false, Bool.false_eq_true] at hc | skip))
      | (refine aw_if rfl ?_ ?_ <;> intro hc <;> (first | replace hc := of_decide_eq_true hc | replace hc := of_decide_eq_false hc | replace hc := eq_of_beq hc | simp only [Bool.not_eq_true', Bool.not_eq_false', Bool.and_eq_true, Bool.or_eq_true, Bool.or_eq_false_iff, Bool.not_true, Bool.not_false, decide_eq_true_eq, decide_eq_false_iff_not, Bool.and_eq_false_imp, bne_iff_ne, ne_eq, beq_iff_eq, beq_eq_false_iff_ne, bne_eq_false_iff_eq, bne_self_eq_false, not_true_eq_false, eq_self, Bool.true_eq_false, Bool.false_eq_true] at hc | skip))
      | refine s_index1n tabOk rfl rfl rfl rfl (by omega) ?_
      | refine s_indexn tabOk rfl rfl rfl rfl (by omega) ?_
      | refine s_index1 tabOk rfl rfl rfl rfl (by omega) (by omega) ?_
      | refine sh_load tabOk (by assumption) rfl rfl rfl rfl (by repeat (first | exact List.Mem.head _ | apply List.Mem.tail)) (by rfl) (by rfl) ?_
      | refine sh_loada tabOk (by assumption) rfl rfl rfl rfl (by repeat (first | exact List.Mem.head _ | apply List.Mem.tail)) (by rfl) ?_
      | (refine sh_box (by assumption) rfl rfl rfl rfl rfl rfl ?_; intro _ _ _)
      | (refine sh_alloc tabOk (by assumption) rfl rfl rfl rfl rfl rfl ?_; intro _ _ _)
      | (refine sh_store tabOk (by assumption) rfl rfl rfl rfl rfl rfl (by repeat (first | exact Upd.here | apply Upd.there)) (by rfl) ?_; intro _ _)
      | (refine sh_lit tabOk (by assumption) rfl rfl rfl rfl rfl rfl rfl rfl rfl rfl rfl ?_; intro _ _ _)
      | refine sh_build tabOk rfl rfl rfl rfl rfl rfl ?_
      | refine rndh_ret ?_
      | refine rndh_exit ?_)
  all_goals try (exfalso; omega)
  · obtain ⟨b, rfl⟩ := H2.row_ptr (List.mem_append_right _ (List.Mem.head _)) (by omega)
    repeat' (first
      | refine s_pure tabOk rfl rfl rfl rfl ?_
      | refine aops_nil ?_
      | refine thn_normal ?_
      | refine aw_seq ?_
      | refine aw_reg ?_
      | refine s_pass rfl rfl rfl ?_
      | refine s_len tabOk rfl rfl rfl rfl ?_
      | refine aw_true rfl ?_
      | refine aw_false rfl ?_
      | refine aw_block ?_
      | refine aw_skip ?_
      | refine aw_exit ?_
      | refine blk_exit ?_
      | refine blk_exit_other rfl ?_
      | refine blk_normal ?_
      | refine thn_exit ?_
      | refine thn_ret ?_
      | refine blk_ret ?_
      | refine rnd_ret ?_
      | refine rnd_exit ?_
      | refine aw_ret ?_
      | refine s_arith tabOk rfl rfl rfl rfl (by simp only [InR]; omega) ?_
      | ((fail_if_success refine s_told rfl rfl ?_); refine s_part rfl rfl rfl ?_ ?_ <;> intro hc <;> (first | replace hc := of_decide_eq_true hc | replace hc := of_decide_eq_false hc | replace hc := eq_of_beq hc | simp only [Bool.not_eq_true', Bool.not_eq_false', Bool.and_eq_true, Bool.or_eq_true, Bool.or_eq_false_iff, Bool.not_true, Bool.not_false, decide_eq_true_eq, decide_eq_false_iff_not, Bool.and_eq_false_imp, bne_iff_ne, ne_eq, beq_iff_eq, beq_eq_false_iff_ne, bne_eq_false_iff_eq, bne_self_eq_false, not_true_eq_false, eq_self, Bool.true_eq_false, Bool.false_eq_true] at hc | skip))
      | (refine aw_if rfl ?_ ?_ <;> intro hc <;> (first | replace hc := of_decide_eq_true hc | replace hc := of_decide_eq_false hc | replace hc := eq_of_beq hc | simp only [Bool.not_eq_true', Bool.not_eq_false', Bool.and_eq_true, Bool.or_eq_true, Bool.or_eq_false_iff, Bool.not_true, Bool.not_false, decide_eq_true_eq, decide_eq_false_iff_not, Bool.and_eq_false_imp, bne_iff_ne, ne_eq, beq_iff_eq, beq_eq_false_iff_ne, bne_eq_false_iff_eq, bne_self_eq_false, not_true_eq_false, eq_self, Bool.true_eq_false, Bool.false_eq_true] at hc | skip))
      | refine s_index1n tabOk rfl rfl rfl rfl (by omega) ?_
      | refine s_indexn tabOk rfl rfl rfl rfl (by omega) ?_
      | refine s_index1 tabOk rfl rfl rfl rfl (by omega) (by omega) ?_
      | refine sh_load tabOk (by assumption) rfl rfl rfl rfl (by repeat (first | exact List.Mem.head _ | apply List.Mem.tail)) (by rfl) (by rfl) ?_
      | refine sh_loada tabOk (by assumption) rfl rfl rfl rfl (by repeat (first | exact List.Mem.head _ | apply List.Mem.tail)) (by rfl) ?_
      | (refine sh_box (by assumption) rfl rfl rfl rfl rfl rfl ?_; intro _ _ _)
      | (refine sh_alloc tabOk (by assumption) rfl rfl rfl rfl rfl rfl ?_; intro _ _ _)
      | (refine sh_store tabOk (by assumption) rfl rfl rfl rfl rfl rfl (by repeat (first | exact Upd.here | apply Upd.there)) (by rfl) ?_; intro _ _)
      | (refine sh_lit tabOk (by assumption) rfl rfl rfl rfl rfl rfl rfl rfl rfl rfl rfl ?_; intro _ _ _)
      | refine sh_build tabOk rfl rfl rfl rfl rfl rfl ?_
      | refine rndh_ret ?_
      | refine rndh_exit ?_)
    simp only [Nat.zero_add]
    refine sh_storeT tabOk (.int .i64) (ys := mkI n i ++ xs.drop i) H2 rfl rfl rfl rfl rfl rfl (upd_mid _ _) (by simp [mkI_len]; omega) ?_
    intro W3 H3
    rw [set_mark (mkI_len n i) (by omega), ← mkI_succ] at H3
    repeat' (first
      | refine s_pure tabOk rfl rfl rfl rfl ?_
      | refine aops_nil ?_
      | refine thn_normal ?_
      | refine aw_seq ?_
      | refine aw_reg ?_
      | refine s_pass rfl rfl rfl ?_
      | refine s_len tabOk rfl rfl rfl rfl ?_
      | refine aw_true rfl ?_
      | refine aw_false rfl ?_
      | refine aw_block ?_
      | refine aw_skip ?_
      | refine aw_exit ?_
      | refine blk_exit ?_
      | refine blk_exit_other rfl ?_
      | refine blk_normal ?_
      | refine thn_exit ?_
      | refine thn_ret ?_
      | refine blk_ret ?_
      | refine rnd_ret ?_
      | refine rnd_exit ?_
      | refine aw_ret ?_
      | refine s_arith tabOk rfl rfl rfl rfl (by simp only [InR]; omega) ?_
      | ((fail_if_success refine s_told rfl rfl ?_); refine s_part rfl rfl rfl ?_ ?_ <;> intro hc <;> (first | replace hc := of_decide_eq_true hc | replace hc := of_decide_eq_false hc | replace hc := eq_of_beq hc | simp only [Bool.not_eq_true', Bool.not_eq_false', Bool.and_eq_true, Bool.or_eq_true, Bool.or_eq_false_iff, Bool.not_true, Bool.not_false, decide_eq_true_eq, decide_eq_false_iff_not, Bool.and_eq_false_imp, bne_iff_ne, ne_eq, beq_iff_eq, beq_eq_false_iff_ne, bne_eq_false_iff_eq, bne_self_eq_false, not_true_eq_false, eq_self, Bool.true_eq_false, Bool.false_eq_true] at hc | skip))
      | (refine aw_if rfl ?_ ?_ <;> intro hc <;> (first | replace hc := of_decide_eq_true hc | replace hc := of_decide_eq_false hc | replace hc := eq_of_beq hc | simp only [Bool.not_eq_true', Bool.not_eq_false', Bool.and_eq_true, Bool.or_eq_true, Bool.or_eq_false_iff, Bool.not_true, Bool.not_false, decide_eq_true_eq, decide_eq_false_iff_not, Bool.and_eq_false_imp, bne_iff_ne, ne_eq, beq_iff_eq, beq_eq_false_iff_ne, bne_eq_false_iff_eq, bne_self_eq_false, not_true_eq_false, eq_self, Bool.true_eq_false, Bool.false_eq_true] at hc | skip))
      | refine s_index1n tabOk rfl rfl rfl rfl (by omega) ?_
      | refine s_indexn tabOk rfl rfl rfl rfl (by omega) ?_
      | refine s_index1 tabOk rfl rfl rfl rfl (by omega) (by omega) ?_
      | refine sh_load tabOk (by assumption) rfl rfl rfl rfl (by repeat (first | exact List.Mem.head _ | apply List.Mem.tail)) (by rfl) (by rfl) ?_
      | refine sh_loada tabOk (by assumption) rfl rfl rfl rfl (by repeat (first | exact List.Mem.head _ | apply List.Mem.tail)) (by rfl) ?_
      | (refine sh_box (by assumption) rfl rfl rfl rfl rfl rfl ?_; intro _ _ _)
      | (refine sh_alloc tabOk (by assumption) rfl rfl rfl rfl rfl rfl ?_; intro _ _ _)
      | (refine sh_store tabOk (by assumption) rfl rfl rfl rfl rfl rfl (by repeat (first | exact Upd.here | apply Upd.there)) (by rfl) ?_; intro _ _)
      | (refine sh_lit tabOk (by assumption) rfl rfl rfl rfl rfl rfl rfl rfl rfl rfl rfl ?_; intro _ _ _)
      | refine sh_build tabOk rfl rfl rfl rfl rfl rfl ?_
      | refine rndh_ret ?_
      | refine rndh_exit ?_)
    refine rndh_next (i + 1) (by omega) (by omega) (by rw [show n + ((i + 1 : Nat) : Int) = n + i + 1 by omega]; exact (by repeat (first | exact less_nil | refine less_cons rfl ?_))) H3
  · have : i = xs.length := by omega
    subst this
    refine retK_ret tabOk (congrArg Array.toList Try.results22) (rv_tmp rfl rfl rv_nil) ?_
    refine ⟨rfl, ?_⟩
    simpa using H2
theorem c_laws_heldInt64S {v : Value} {xs : List Int} (hv : SlI W v xs) (hl : xs.length ≤ 1048576) {n : Int} (h0 : 0 ≤ n) (h1 : n ≤ 1099511627776) (hx : ∀ j, j < xs.length → xs.getD j 0 = n + j) :
    ACalls Try.prog B 23 [v, .int .i64 n] W (fun r W' => r = .int .i64 (n + xs.length) ∧ W' = W) := by
  obtain ⟨a, c, rfl, -⟩ := hv.form
  refine acalls_of Try.func23 rfl Try.ntmps23 (Nat.le_of_ble_eq_true rfl) ?_
  repeat' (first
      | refine s_pure tabOk rfl rfl rfl rfl ?_
      | refine aops_nil ?_
      | refine thn_normal ?_
      | refine aw_seq ?_
      | refine aw_reg ?_
      | refine s_pass rfl rfl rfl ?_
      | refine s_len tabOk rfl rfl rfl rfl ?_
      | refine aw_true rfl ?_
      | refine aw_false rfl ?_
      | refine aw_block ?_
      | refine aw_skip ?_
      | refine aw_exit ?_
      | refine blk_exit ?_
      | refine blk_exit_other rfl ?_
      | refine blk_normal ?_
      | refine thn_exit ?_
      | refine thn_ret ?_
      | refine blk_ret ?_
      | refine rnd_ret ?_
      | refine rnd_exit ?_
      | refine aw_ret ?_
      | refine s_arith tabOk rfl rfl rfl rfl (by simp only [InR]; omega) ?_
      | ((fail_if_success refine s_told rfl rfl ?_); refine s_part rfl rfl rfl ?_ ?_ <;> intro hc <;> (first | replace hc := of_decide_eq_true hc | replace hc := of_decide_eq_false hc | replace hc := eq_of_beq hc | simp only [Bool.not_eq_true', Bool.not_eq_false', Bool.and_eq_true, Bool.or_eq_true, Bool.or_eq_false_iff, Bool.not_true, Bool.not_false, decide_eq_true_eq, decide_eq_false_iff_not, Bool.and_eq_false_imp, bne_iff_ne, ne_eq, beq_iff_eq, beq_eq_false_iff_ne, bne_eq_false_iff_eq, bne_self_eq_false, not_true_eq_false, eq_self, Bool.true_eq_false, Bool.false_eq_true] at hc | skip))
      | (refine aw_if rfl ?_ ?_ <;> intro hc <;> (first | replace hc := of_decide_eq_true hc | replace hc := of_decide_eq_false hc | replace hc := eq_of_beq hc | simp only [Bool.not_eq_true', Bool.not_eq_false', Bool.and_eq_true, Bool.or_eq_true, Bool.or_eq_false_iff, Bool.not_true, Bool.not_false, decide_eq_true_eq, decide_eq_false_iff_not, Bool.and_eq_false_imp, bne_iff_ne, ne_eq, beq_iff_eq, beq_eq_false_iff_ne, bne_eq_false_iff_eq, bne_self_eq_false, not_true_eq_false, eq_self, Bool.true_eq_false, Bool.false_eq_true] at hc | skip))
      | refine s_index1n tabOk rfl rfl rfl rfl (by omega) ?_
      | refine s_indexn tabOk rfl rfl rfl rfl (by omega) ?_
      | refine s_index1 tabOk rfl rfl rfl rfl (by omega) (by omega) ?_
      | refine sh_load tabOk (by assumption) rfl rfl rfl rfl (by repeat (first | exact List.Mem.head _ | apply List.Mem.tail)) (by rfl) (by rfl) ?_
      | refine sh_loada tabOk (by assumption) rfl rfl rfl rfl (by repeat (first | exact List.Mem.head _ | apply List.Mem.tail)) (by rfl) ?_
      | (refine sh_box (by assumption) rfl rfl rfl rfl rfl rfl ?_; intro _ _ _)
      | (refine sh_alloc tabOk (by assumption) rfl rfl rfl rfl rfl rfl ?_; intro _ _ _)
      | (refine sh_store tabOk (by assumption) rfl rfl rfl rfl rfl rfl (by repeat (first | exact Upd.here | apply Upd.there)) (by rfl) ?_; intro _ _)
      | (refine sh_lit tabOk (by assumption) rfl rfl rfl rfl rfl rfl rfl rfl rfl rfl rfl ?_; intro _ _ _)
      | refine sh_build tabOk rfl rfl rfl rfl rfl rfl ?_
      | refine rndh_ret ?_
      | refine rndh_exit ?_)
  refine aw_loop (fun i : Nat => [(5, .int .i64 i), (1, .int .i64 (n + i)), (0, .slice a xs.length c)]) (fun _ => W) (fun i => i ≤ xs.length) (fun i => xs.length - i) 0 (by omega) (by rw [show n + ((0 : Nat) : Int) = n by omega]; exact (by repeat (first | exact less_nil | refine less_cons rfl ?_))) rfl ?_
  intro i hi
  repeat' (first
      | refine s_pure tabOk rfl rfl rfl rfl ?_
      | refine aops_nil ?_
      | refine thn_normal ?_
      | refine aw_seq ?_
      | refine aw_reg ?_
      | refine s_pass rfl rfl rfl ?_
      | refine s_len tabOk rfl rfl rfl rfl ?_
      | refine aw_true rfl ?_
      | refine aw_false rfl ?_
      | refine aw_block ?_
      | refine aw_skip ?_
      | refine aw_exit ?_
      | refine blk_exit ?_
      | refine blk_exit_other rfl ?_
      | refine blk_normal ?_
      | refine thn_exit ?_
      | refine thn_ret ?_
      | refine blk_ret ?_
      | refine rnd_ret ?_
      | refine rnd_exit ?_
      | refine aw_ret ?_
      | refine s_arith tabOk rfl rfl rfl rfl (by simp only [InR]; omega) ?_
      | ((fail_if_success refine s_told rfl rfl ?_); refine s_part rfl rfl rfl ?_ ?_ <;> intro hc <;> (first | replace hc := of_decide_eq_true hc | replace hc := of_decide_eq_false hc | replace hc := eq_of_beq hc | simp only [Bool.not_eq_true', Bool.not_eq_false', Bool.and_eq_true, Bool.or_eq_true, Bool.or_eq_false_iff, Bool.not_true, Bool.not_false, decide_eq_true_eq, decide_eq_false_iff_not, Bool.and_eq_false_imp, bne_iff_ne, ne_eq, beq_iff_eq, beq_eq_false_iff_ne, bne_eq_false_iff_eq, bne_self_eq_false, not_true_eq_false, eq_self, Bool.true_eq_false, Bool.false_eq_true] at hc | skip))
      | (refine aw_if rfl ?_ ?_ <;> intro hc <;> (first | replace hc := of_decide_eq_true hc | replace hc := of_decide_eq_false hc | replace hc := eq_of_beq hc | simp only [Bool.not_eq_true', Bool.not_eq_false', Bool.and_eq_true, Bool.or_eq_true, Bool.or_eq_false_iff, Bool.not_true, Bool.not_false, decide_eq_true_eq, decide_eq_false_iff_not, Bool.and_eq_false_imp, bne_iff_ne, ne_eq, beq_iff_eq, beq_eq_false_iff_ne, bne_eq_false_iff_eq, bne_self_eq_false, not_true_eq_false, eq_self, Bool.true_eq_false, Bool.false_eq_true] at hc | skip))
      | refine s_index1n tabOk rfl rfl rfl rfl (by omega) ?_
      | refine s_indexn tabOk rfl rfl rfl rfl (by omega) ?_
      | refine s_index1 tabOk rfl rfl rfl rfl (by omega) (by omega) ?_
      | refine sh_load tabOk (by assumption) rfl rfl rfl rfl (by repeat (first | exact List.Mem.head _ | apply List.Mem.tail)) (by rfl) (by rfl) ?_
      | refine sh_loada tabOk (by assumption) rfl rfl rfl rfl (by repeat (first | exact List.Mem.head _ | apply List.Mem.tail)) (by rfl) ?_
      | (refine sh_box (by assumption) rfl rfl rfl rfl rfl rfl ?_; intro _ _ _)
      | (refine sh_alloc tabOk (by assumption) rfl rfl rfl rfl rfl rfl ?_; intro _ _ _)
      | (refine sh_store tabOk (by assumption) rfl rfl rfl rfl rfl rfl (by repeat (first | exact Upd.here | apply Upd.there)) (by rfl) ?_; intro _ _)
      | (refine sh_lit tabOk (by assumption) rfl rfl rfl rfl rfl rfl rfl rfl rfl rfl rfl ?_; intro _ _ _)
      | refine sh_build tabOk rfl rfl rfl rfl rfl rfl ?_
      | refine rndh_ret ?_
      | refine rndh_exit ?_)
  all_goals try (exfalso; omega)
  · obtain ⟨b, off, rfl, hr⟩ := hv.read (by omega)
    repeat' (first
      | refine s_pure tabOk rfl rfl rfl rfl ?_
      | refine aops_nil ?_
      | refine thn_normal ?_
      | refine aw_seq ?_
      | refine aw_reg ?_
      | refine s_pass rfl rfl rfl ?_
      | refine s_len tabOk rfl rfl rfl rfl ?_
      | refine aw_true rfl ?_
      | refine aw_false rfl ?_
      | refine aw_block ?_
      | refine aw_skip ?_
      | refine aw_exit ?_
      | refine blk_exit ?_
      | refine blk_exit_other rfl ?_
      | refine blk_normal ?_
      | refine thn_exit ?_
      | refine thn_ret ?_
      | refine blk_ret ?_
      | refine rnd_ret ?_
      | refine rnd_exit ?_
      | refine aw_ret ?_
      | refine s_arith tabOk rfl rfl rfl rfl (by simp only [InR]; omega) ?_
      | ((fail_if_success refine s_told rfl rfl ?_); refine s_part rfl rfl rfl ?_ ?_ <;> intro hc <;> (first | replace hc := of_decide_eq_true hc | replace hc := of_decide_eq_false hc | replace hc := eq_of_beq hc | simp only [Bool.not_eq_true', Bool.not_eq_false', Bool.and_eq_true, Bool.or_eq_true, Bool.or_eq_false_iff, Bool.not_true, Bool.not_false, decide_eq_true_eq, decide_eq_false_iff_not, Bool.and_eq_false_imp, bne_iff_ne, ne_eq, beq_iff_eq, beq_eq_false_iff_ne, bne_eq_false_iff_eq, bne_self_eq_false, not_true_eq_false, eq_self, Bool.true_eq_false, Bool.false_eq_true] at hc | skip))
      | (refine aw_if rfl ?_ ?_ <;> intro hc <;> (first | replace hc := of_decide_eq_true hc | replace hc := of_decide_eq_false hc | replace hc := eq_of_beq hc | simp only [Bool.not_eq_true', Bool.not_eq_false', Bool.and_eq_true, Bool.or_eq_true, Bool.or_eq_false_iff, Bool.not_true, Bool.not_false, decide_eq_true_eq, decide_eq_false_iff_not, Bool.and_eq_false_imp, bne_iff_ne, ne_eq, beq_iff_eq, beq_eq_false_iff_ne, bne_eq_false_iff_eq, bne_self_eq_false, not_true_eq_false, eq_self, Bool.true_eq_false, Bool.false_eq_true] at hc | skip))
      | refine s_index1n tabOk rfl rfl rfl rfl (by omega) ?_
      | refine s_indexn tabOk rfl rfl rfl rfl (by omega) ?_
      | refine s_index1 tabOk rfl rfl rfl rfl (by omega) (by omega) ?_
      | refine sh_load tabOk (by assumption) rfl rfl rfl rfl (by repeat (first | exact List.Mem.head _ | apply List.Mem.tail)) (by rfl) (by rfl) ?_
      | refine sh_loada tabOk (by assumption) rfl rfl rfl rfl (by repeat (first | exact List.Mem.head _ | apply List.Mem.tail)) (by rfl) ?_
      | (refine sh_box (by assumption) rfl rfl rfl rfl rfl rfl ?_; intro _ _ _)
      | (refine sh_alloc tabOk (by assumption) rfl rfl rfl rfl rfl rfl ?_; intro _ _ _)
      | (refine sh_store tabOk (by assumption) rfl rfl rfl rfl rfl rfl (by repeat (first | exact Upd.here | apply Upd.there)) (by rfl) ?_; intro _ _)
      | (refine sh_lit tabOk (by assumption) rfl rfl rfl rfl rfl rfl rfl rfl rfl rfl rfl ?_; intro _ _ _)
      | refine sh_build tabOk rfl rfl rfl rfl rfl rfl ?_
      | refine rndh_ret ?_
      | refine rndh_exit ?_)
    refine sh_readT tabOk 0 rfl rfl rfl rfl hr rfl (by omega) ?_
    rw [hx i (by omega)]
    repeat' (first
      | refine s_pure tabOk rfl rfl rfl rfl ?_
      | refine aops_nil ?_
      | refine thn_normal ?_
      | refine aw_seq ?_
      | refine aw_reg ?_
      | refine s_pass rfl rfl rfl ?_
      | refine s_len tabOk rfl rfl rfl rfl ?_
      | refine aw_true rfl ?_
      | refine aw_false rfl ?_
      | refine aw_block ?_
      | refine aw_skip ?_
      | refine aw_exit ?_
      | refine blk_exit ?_
      | refine blk_exit_other rfl ?_
      | refine blk_normal ?_
      | refine thn_exit ?_
      | refine thn_ret ?_
      | refine blk_ret ?_
      | refine rnd_ret ?_
      | refine rnd_exit ?_
      | refine aw_ret ?_
      | refine s_arith tabOk rfl rfl rfl rfl (by simp only [InR]; omega) ?_
      | ((fail_if_success refine s_told rfl rfl ?_); refine s_part rfl rfl rfl ?_ ?_ <;> intro hc <;> (first | replace hc := of_decide_eq_true hc | replace hc := of_decide_eq_false hc | replace hc := eq_of_beq hc | simp only [Bool.not_eq_true', Bool.not_eq_false', Bool.and_eq_true, Bool.or_eq_true, Bool.or_eq_false_iff, Bool.not_true, Bool.not_false, decide_eq_true_eq, decide_eq_false_iff_not, Bool.and_eq_false_imp, bne_iff_ne, ne_eq, beq_iff_eq, beq_eq_false_iff_ne, bne_eq_false_iff_eq, bne_self_eq_false, not_true_eq_false, eq_self, Bool.true_eq_false, Bool.false_eq_true] at hc | skip))
      | (refine aw_if rfl ?_ ?_ <;> intro hc <;> (first | replace hc := of_decide_eq_true hc | replace hc := of_decide_eq_false hc | replace hc := eq_of_beq hc | simp only [Bool.not_eq_true', Bool.not_eq_false', Bool.and_eq_true, Bool.or_eq_true, Bool.or_eq_false_iff, Bool.not_true, Bool.not_false, decide_eq_true_eq, decide_eq_false_iff_not, Bool.and_eq_false_imp, bne_iff_ne, ne_eq, beq_iff_eq, beq_eq_false_iff_ne, bne_eq_false_iff_eq, bne_self_eq_false, not_true_eq_false, eq_self, Bool.true_eq_false, Bool.false_eq_true] at hc | skip))
      | refine s_index1n tabOk rfl rfl rfl rfl (by omega) ?_
      | refine s_indexn tabOk rfl rfl rfl rfl (by omega) ?_
      | refine s_index1 tabOk rfl rfl rfl rfl (by omega) (by omega) ?_
      | refine sh_load tabOk (by assumption) rfl rfl rfl rfl (by repeat (first | exact List.Mem.head _ | apply List.Mem.tail)) (by rfl) (by rfl) ?_
      | refine sh_loada tabOk (by assumption) rfl rfl rfl rfl (by repeat (first | exact List.Mem.head _ | apply List.Mem.tail)) (by rfl) ?_
      | (refine sh_box (by assumption) rfl rfl rfl rfl rfl rfl ?_; intro _ _ _)
      | (refine sh_alloc tabOk (by assumption) rfl rfl rfl rfl rfl rfl ?_; intro _ _ _)
      | (refine sh_store tabOk (by assumption) rfl rfl rfl rfl rfl rfl (by repeat (first | exact Upd.here | apply Upd.there)) (by rfl) ?_; intro _ _)
      | (refine sh_lit tabOk (by assumption) rfl rfl rfl rfl rfl rfl rfl rfl rfl rfl rfl ?_; intro _ _ _)
      | refine sh_build tabOk rfl rfl rfl rfl rfl rfl ?_
      | refine rndh_ret ?_
      | refine rndh_exit ?_)
    refine rnd_next (i + 1) (by omega) (by omega) (by rw [show n + ((i + 1 : Nat) : Int) = n + i + 1 by omega]; exact (by repeat (first | exact less_nil | refine less_cons rfl ?_))) rfl
  · have hil : i = xs.length := by omega
    subst hil
    refine retK_ret tabOk (congrArg Array.toList Try.results23) (rv_tmp rfl rfl rv_nil) ?_
    exact ⟨rfl, rfl⟩
theorem hc_heldI {v : Value} {nn m : Nat} {n : Int} (H : Hp B A W L) (hm : Res.row 2 1 v nn (iC (mkI n m)) ∈ L) (hl : m ≤ 1048576) (h0 : 0 ≤ n) (h1 : n ≤ 1099511627776) :
    ACalls Try.prog B 23 [v, .int .i64 n] W (fun r W' => r = .int .i64 (n + m) ∧ W' = W) := by
  have h := c_laws_heldInt64S (B := B) (H.sli hm) (by rw [mkI_len]; exact hl) h0 h1 (fun j hj => mkI_get n (by rwa [mkI_len] at hj))
  rwa [mkI_len] at h
end
end Go.Proofs.Ytgkmonllkfgbdaa
