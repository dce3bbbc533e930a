/- Records stored, cut and read back: the plain part. -/
import Derived.Test.YtmplincflbhmiaaXTe
import Derived.Test.YtmplincflbhmiaaXSd
import Derived.Test.YtmplincflbhmiaaXTa
namespace Go.Proofs.Ytmplincflbhmiaa
set_option linter.unusedSimpArgs false
set_option linter.unusedVariables false
open Go Cn Go.RowKit
theorem RdV.elem {W : World} {α : Type} {f : α → List Value} {k : Nat} (hf : ∀ x, (f x).length = k) (d0 : α) {b off : Nat} {ys : List α} (h : RdV W b off (ys.flatMap f)) {i : Nat} (hi : i < ys.length) : RdV W b (off + i * k) (f (ys.getD i d0)) := by
  intro j hj
  rw [hf] at hj
  have hm : (i + 1) * k ≤ ys.length * k := Nat.mul_le_mul_right _ hi
  rw [Nat.add_mul, Nat.one_mul] at hm
  obtain ⟨u, h1, h2, h3⟩ := h (i * k + j) (by rw [flat_len hf]; omega)
  refine ⟨u, by rw [Nat.add_assoc]; exact h1, ?_, h3⟩
  rw [h2, flat_get hf d0 hi hj]
def stR (r : Rcd) : ByteArray := storeS r.s r.st r.sp r.xs
@[irreducible] def okR (r : Rcd) : Bool := recOk r.s r.st r.sp r.xs.length
@[irreducible] def catR (rs : List Rcd) : ByteArray := rs.foldl (fun o r => o ++ stR r) ⟨#[]⟩
theorem catR_nil : catR [] = ⟨#[]⟩ := by unfold catR; rfl
theorem catR_push (rs : List Rcd) (r : Rcd) : catR (rs ++ [r]) = catR rs ++ stR r := by unfold catR; rw [List.foldl_append]; rfl
theorem catR_take {rs : List Rcd} {i : Nat} (d : Rcd) (h : i < rs.length) : catR (rs.take (i + 1)) = catR (rs.take i) ++ stR (rs.getD i d) := by
  rw [takePush d h, catR_push]
theorem stR_size {r : Rcd} (h : okR r = true) : (stR r).size ≤ 1000 := by
  unfold okR at h
  have h1 := recOk_range h
  have h2 := recOk_name h
  have hp := packTo_len r.xs r.xs.length
  unfold stR storeS
  rw [strOfNums_size, List.length_append, storeL_len, leL_len]
  omega
@[irreducible] def srOk (rs : List Rcd) : Bool := decide (rs.length ≤ 8) && rs.all okR
@[irreducible] def srS (rs : List Rcd) : ByteArray := if srOk rs then catR rs else ⟨#[]⟩
theorem srOk_long {rs : List Rcd} (h : ¬ rs.length ≤ 8) : srOk rs = false := by unfold srOk; rw [decide_eq_false h]; rfl
def rc1 : Rcd := ⟨⟨#[]⟩, 0, 0, []⟩
theorem rs_getC {ys : List RcY} {j : Nat} (h : j < ys.length) : (ys.map (·.2)).getD j rc1 = (ys.getD j rc0).2 := by simp [List.getD_eq_getElem?_getD, h]
theorem catR_stepC {ys : List RcY} {i : Nat} (h : i < ys.length) : catR ((ys.map (·.2)).take (i + 1)) = catR ((ys.map (·.2)).take i) ++ stR (ys.getD i rc0).2 := by
  rw [catR_take rc1 (by simpa using h), rs_getC h]
def BdC (ys : List RcY) : Prop := ∀ j, j < ys.length → Bd (ys.getD j rc0).2.xs
section
variable {B : Nat} {A W W' : World} {L L' : List Res}
def SrH (B : Nat) (W W' : World) (v : Value) (rs : List Rcd) : Prop := v = .tuple #[.string (srS rs), .bool (srOk rs)] ∧ Hp B W W' []
theorem SrH.bad {rs : List Rcd} (hk : srOk rs = false) (hb : Hp B W W' []) : SrH B W W' (.tuple #[.string ⟨#[]⟩, .bool false]) rs := by
  unfold SrH srS
  rw [hk]
  exact ⟨rfl, hb⟩
theorem SrH.good {rs : List Rcd} (hk : srOk rs = true) (hb : Hp B W W' []) : SrH B W W' (.tuple #[.string (catR rs), .bool true]) rs := by
  unfold SrH srS
  rw [hk]
  exact ⟨rfl, hb⟩
theorem c_StoreRecords_1 {y : RcY} (h : rcS W y) (hs : y.2.s.size ≤ 1048576) (hB : B ≤ W.heap.size) : ACalls Try.prog B 74 [.agg (rcF y).toArray] W (fun u W' => u = .bool (!okR y.2) ∧ Hp B W W' []) := by
  have H0 : Hp B W W [] := Hp.new hB
  have hr := recA_of h
  obtain ⟨⟨p, pc⟩, ⟨s, st, sp, xs⟩⟩ := y
  dsimp only at hr hs ⊢
  refine acalls_of Try.func74 rfl Try.ntmps74 (Nat.le_of_ble_eq_true rfl) ?_
  repeat' (first | refine s_pure tabOk rfl rfl rfl rfl ?_ | refine Stp.imp ?_ | refine aops_nil ?_ | refine aw_reg ?_ | refine aw_seq ?_ | refine s_pass rfl rfl rfl ?_ | refine s_len tabOk rfl rfl rfl rfl ?_ | refine aw_true rfl ?_ | refine aw_false rfl ?_ | refine blk_exit_other rfl ?_ | refine s_arith tabOk rfl rfl rfl rfl (by simp only [InR]; omega) ?_ | ((first | ((fail_if_success refine s_told rfl rfl ?_); refine s_part rfl rfl rfl ?_ ?_) | refine aw_if rfl ?_ ?_) <;> intro hc <;> (first | replace hc := DecT.imp hc | simp only [decs] at hc | skip)) | refine s_index1n tabOk rfl rfl rfl rfl (by omega) ?_ | refine s_indexn tabOk rfl rfl rfl rfl (by omega) ?_ | refine s_index1 tabOk rfl rfl rfl rfl (by omega) (by omega) ?_ | refine sh_load tabOk (by assumption) rfl rfl rfl rfl (by repeat (first | exact List.Mem.head _ | apply List.Mem.tail)) (by rfl) (by rfl) ?_ | refine sh_loada tabOk (by assumption) rfl rfl rfl rfl (by repeat (first | exact List.Mem.head _ | apply List.Mem.tail)) (by rfl) ?_ | (refine sh_box (by assumption) rfl rfl rfl rfl rfl rfl ?_; intro _ _ _) | (refine sh_alloc tabOk (by assumption) rfl rfl rfl rfl rfl rfl ?_; intro _ _ _) | (refine sh_store tabOk (by assumption) rfl rfl rfl rfl rfl rfl (by repeat (first | exact Upd.here | apply Upd.there)) (by rfl) ?_; intro _ _) | (refine sh_lit tabOk (by assumption) rfl rfl rfl rfl rfl rfl rfl rfl rfl rfl rfl ?_; intro _ _ _) | refine sh_build tabOk rfl rfl rfl rfl rfl rfl ?_)
  refine s_call rfl rfl rfl rfl ent25 (c_impl_ValidRecord (RecA.below hr (Hp.below (by assumption))) hs) ?_
  rintro _ W2 ⟨rfl, g2⟩
  have H2 := Hp.grow (by assumption) g2
  repeat' (first | refine s_pure tabOk rfl rfl rfl rfl ?_ | refine Stp.imp ?_ | refine aops_nil ?_ | refine aw_reg ?_ | refine aw_seq ?_ | refine s_pass rfl rfl rfl ?_ | refine s_len tabOk rfl rfl rfl rfl ?_ | refine aw_true rfl ?_ | refine aw_false rfl ?_ | refine blk_exit_other rfl ?_ | refine s_arith tabOk rfl rfl rfl rfl (by simp only [InR]; omega) ?_ | ((first | ((fail_if_success refine s_told rfl rfl ?_); refine s_part rfl rfl rfl ?_ ?_) | refine aw_if rfl ?_ ?_) <;> intro hc <;> (first | replace hc := DecT.imp hc | simp only [decs] at hc | skip)) | refine s_index1n tabOk rfl rfl rfl rfl (by omega) ?_ | refine s_indexn tabOk rfl rfl rfl rfl (by omega) ?_ | refine s_index1 tabOk rfl rfl rfl rfl (by omega) (by omega) ?_ | refine sh_load tabOk (by assumption) rfl rfl rfl rfl (by repeat (first | exact List.Mem.head _ | apply List.Mem.tail)) (by rfl) (by rfl) ?_ | refine sh_loada tabOk (by assumption) rfl rfl rfl rfl (by repeat (first | exact List.Mem.head _ | apply List.Mem.tail)) (by rfl) ?_ | (refine sh_box (by assumption) rfl rfl rfl rfl rfl rfl ?_; intro _ _ _) | (refine sh_alloc tabOk (by assumption) rfl rfl rfl rfl rfl rfl ?_; intro _ _ _) | (refine sh_store tabOk (by assumption) rfl rfl rfl rfl rfl rfl (by repeat (first | exact Upd.here | apply Upd.there)) (by rfl) ?_; intro _ _) | (refine sh_lit tabOk (by assumption) rfl rfl rfl rfl rfl rfl rfl rfl rfl rfl rfl ?_; intro _ _ _) | refine sh_build tabOk rfl rfl rfl rfl rfl rfl ?_)
  refine retK_ret tabOk (congrArg Array.toList Try.results74) (by repeat (first | exact rv_nil | apply rv_tmp rfl rfl | apply rv_cellH (by assumption) rfl rfl rfl (by repeat (first | exact List.Mem.head _ | apply List.Mem.tail)) rfl)) ?_
  exact ⟨by unfold okR; rfl, Hp.sub (by assumption) (by repeat (first | exact List.nil_sublist _ | refine List.Sublist.cons_cons _ ?_ | refine List.Sublist.cons _ ?_))⟩
theorem c_IndexFuncC {v : Value} {ys : List RcY} (hv : SlC W v ys) (hl : ys.length + totC ys ≤ 1048576) (hB : B ≤ W.heap.size) :
    ACalls Try.prog B 104 [v, .func (.func 74) #[] #[]] W (fun u W' => ∃ z : Int, u = .int .i64 z ∧ -1 ≤ z ∧ z ≤ 1048576 ∧ decide (0 ≤ z) = !((ys.map (·.2)).all okR) ∧ Hp B W W' []) := by
  have H0 : Hp B W W [] := Hp.new hB
  have hv0 := hv
  obtain ⟨a, c, rfl, -⟩ := hv.form
  refine acalls_of Try.func104 rfl Try.ntmps104 (Nat.le_of_ble_eq_true rfl) ?_
  repeat' (first | refine s_pure tabOk rfl rfl rfl rfl ?_ | refine Stp.imp ?_ | refine aops_nil ?_ | refine aw_reg ?_ | refine aw_seq ?_ | refine s_pass rfl rfl rfl ?_ | refine s_len tabOk rfl rfl rfl rfl ?_ | refine aw_true rfl ?_ | refine aw_false rfl ?_ | refine blk_exit_other rfl ?_ | refine s_arith tabOk rfl rfl rfl rfl (by simp only [InR]; omega) ?_ | ((first | ((fail_if_success refine s_told rfl rfl ?_); refine s_part rfl rfl rfl ?_ ?_) | refine aw_if rfl ?_ ?_) <;> intro hc <;> (first | replace hc := DecT.imp hc | simp only [decs] at hc | skip)) | refine s_index1n tabOk rfl rfl rfl rfl (by omega) ?_ | refine s_indexn tabOk rfl rfl rfl rfl (by omega) ?_ | refine s_index1 tabOk rfl rfl rfl rfl (by omega) (by omega) ?_ | refine sh_load tabOk (by assumption) rfl rfl rfl rfl (by repeat (first | exact List.Mem.head _ | apply List.Mem.tail)) (by rfl) (by rfl) ?_ | refine sh_loada tabOk (by assumption) rfl rfl rfl rfl (by repeat (first | exact List.Mem.head _ | apply List.Mem.tail)) (by rfl) ?_ | (refine sh_box (by assumption) rfl rfl rfl rfl rfl rfl ?_; intro _ _ _) | (refine sh_alloc tabOk (by assumption) rfl rfl rfl rfl rfl rfl ?_; intro _ _ _) | (refine sh_store tabOk (by assumption) rfl rfl rfl rfl rfl rfl (by repeat (first | exact Upd.here | apply Upd.there)) (by rfl) ?_; intro _ _) | (refine sh_lit tabOk (by assumption) rfl rfl rfl rfl rfl rfl rfl rfl rfl rfl rfl ?_; intro _ _ _) | refine sh_build tabOk rfl rfl rfl rfl rfl rfl ?_)
  refine aw_loopH (A := W) (fun i : Nat => [(8, .int .i64 i), (7, .int .i64 ys.length), (0, .slice a ys.length c), (1, .func (.func 74) #[] #[])]) (fun _ => []) (fun i => i ≤ ys.length ∧ ∀ j, j < i → okR (ys.getD j rc0).2 = true) (fun i => ys.length - i) 0 ⟨by omega, by omega⟩ H0 (by repeat (first | exact less_nil | refine less_cons rfl ?_)) ?_
  rintro i W2 ⟨hi, hall⟩ H2
  by_cases hin : i < ys.length
  rotate_left
  · repeat' (first | refine s_pure tabOk rfl rfl rfl rfl ?_ | refine Stp.imp ?_ | refine aops_nil ?_ | refine aw_reg ?_ | refine aw_seq ?_ | refine s_pass rfl rfl rfl ?_ | refine s_len tabOk rfl rfl rfl rfl ?_ | refine aw_true rfl ?_ | refine aw_false rfl ?_ | refine blk_exit_other rfl ?_ | refine s_arith tabOk rfl rfl rfl rfl (by simp only [InR]; omega) ?_ | ((first | ((fail_if_success refine s_told rfl rfl ?_); refine s_part rfl rfl rfl ?_ ?_) | refine aw_if rfl ?_ ?_) <;> intro hc <;> (first | replace hc := DecT.imp hc | simp only [decs] at hc | skip)) | refine s_index1n tabOk rfl rfl rfl rfl (by omega) ?_ | refine s_indexn tabOk rfl rfl rfl rfl (by omega) ?_ | refine s_index1 tabOk rfl rfl rfl rfl (by omega) (by omega) ?_ | refine sh_load tabOk (by assumption) rfl rfl rfl rfl (by repeat (first | exact List.Mem.head _ | apply List.Mem.tail)) (by rfl) (by rfl) ?_ | refine sh_loada tabOk (by assumption) rfl rfl rfl rfl (by repeat (first | exact List.Mem.head _ | apply List.Mem.tail)) (by rfl) ?_ | (refine sh_box (by assumption) rfl rfl rfl rfl rfl rfl ?_; intro _ _ _) | (refine sh_alloc tabOk (by assumption) rfl rfl rfl rfl rfl rfl ?_; intro _ _ _) | (refine sh_store tabOk (by assumption) rfl rfl rfl rfl rfl rfl (by repeat (first | exact Upd.here | apply Upd.there)) (by rfl) ?_; intro _ _) | (refine sh_lit tabOk (by assumption) rfl rfl rfl rfl rfl rfl rfl rfl rfl rfl rfl ?_; intro _ _ _) | refine sh_build tabOk rfl rfl rfl rfl rfl rfl ?_)
    all_goals try (exfalso; omega)
    refine retK_ret tabOk (congrArg Array.toList Try.results104) (by repeat (first | exact rv_nil | apply rv_tmp rfl rfl | apply rv_cellH (by assumption) rfl rfl rfl (by repeat (first | exact List.Mem.head _ | apply List.Mem.tail)) rfl)) ?_
    refine ⟨-1, rfl, by omega, by omega, ?_, H2⟩
    have : (ys.map (·.2)).all okR = true := by
      rw [List.all_eq_true]
      intro r hr
      obtain ⟨j, hj, rfl⟩ := List.getElem_of_mem hr
      have hj' : j < ys.length := by simpa using hj
      have := hall j (by omega)
      simpa [List.getD_eq_getElem?_getD, hj'] using this
    rw [this]; rfl
  have hgl := totC_getD hin
  unfold rcN at hgl
  obtain ⟨b, off, rfl, hr⟩ := hv.read (by omega)
  repeat' (first | refine s_pure tabOk rfl rfl rfl rfl ?_ | refine Stp.imp ?_ | refine aops_nil ?_ | refine aw_reg ?_ | refine aw_seq ?_ | refine s_pass rfl rfl rfl ?_ | refine s_len tabOk rfl rfl rfl rfl ?_ | refine aw_true rfl ?_ | refine aw_false rfl ?_ | refine blk_exit_other rfl ?_ | refine s_arith tabOk rfl rfl rfl rfl (by simp only [InR]; omega) ?_ | ((first | ((fail_if_success refine s_told rfl rfl ?_); refine s_part rfl rfl rfl ?_ ?_) | refine aw_if rfl ?_ ?_) <;> intro hc <;> (first | replace hc := DecT.imp hc | simp only [decs] at hc | skip)) | refine s_index1n tabOk rfl rfl rfl rfl (by omega) ?_ | refine s_indexn tabOk rfl rfl rfl rfl (by omega) ?_ | refine s_index1 tabOk rfl rfl rfl rfl (by omega) (by omega) ?_ | refine sh_load tabOk (by assumption) rfl rfl rfl rfl (by repeat (first | exact List.Mem.head _ | apply List.Mem.tail)) (by rfl) (by rfl) ?_ | refine sh_loada tabOk (by assumption) rfl rfl rfl rfl (by repeat (first | exact List.Mem.head _ | apply List.Mem.tail)) (by rfl) ?_ | (refine sh_box (by assumption) rfl rfl rfl rfl rfl rfl ?_; intro _ _ _) | (refine sh_alloc tabOk (by assumption) rfl rfl rfl rfl rfl rfl ?_; intro _ _ _) | (refine sh_store tabOk (by assumption) rfl rfl rfl rfl rfl rfl (by repeat (first | exact Upd.here | apply Upd.there)) (by rfl) ?_; intro _ _) | (refine sh_lit tabOk (by assumption) rfl rfl rfl rfl rfl rfl rfl rfl rfl rfl rfl ?_; intro _ _ _) | refine sh_build tabOk rfl rfl rfl rfl rfl rfl ?_)
  all_goals try (exfalso; omega)
  refine sh_readA tabOk rcF_len rc0 rfl rfl rfl rfl (H2.rd hr) rfl hin ?_
  refine s_call rfl rfl rfl rfl ent74 (c_StoreRecords_1 ((hv0.2 i hin).below H2.below) (by omega) H2.size) ?_
  rintro _ W3 ⟨rfl, g3⟩
  have H3 := H2.call0 g3
  cases hk : okR (ys.getD i rc0).2
  · repeat' (first | refine s_pure tabOk rfl rfl rfl rfl ?_ | refine Stp.imp ?_ | refine aops_nil ?_ | refine aw_reg ?_ | refine aw_seq ?_ | refine s_pass rfl rfl rfl ?_ | refine s_len tabOk rfl rfl rfl rfl ?_ | refine aw_true rfl ?_ | refine aw_false rfl ?_ | refine blk_exit_other rfl ?_ | refine s_arith tabOk rfl rfl rfl rfl (by simp only [InR]; omega) ?_ | ((first | ((fail_if_success refine s_told rfl rfl ?_); refine s_part rfl rfl rfl ?_ ?_) | refine aw_if rfl ?_ ?_) <;> intro hc <;> (first | replace hc := DecT.imp hc | simp only [decs] at hc | skip)) | refine s_index1n tabOk rfl rfl rfl rfl (by omega) ?_ | refine s_indexn tabOk rfl rfl rfl rfl (by omega) ?_ | refine s_index1 tabOk rfl rfl rfl rfl (by omega) (by omega) ?_ | refine sh_load tabOk (by assumption) rfl rfl rfl rfl (by repeat (first | exact List.Mem.head _ | apply List.Mem.tail)) (by rfl) (by rfl) ?_ | refine sh_loada tabOk (by assumption) rfl rfl rfl rfl (by repeat (first | exact List.Mem.head _ | apply List.Mem.tail)) (by rfl) ?_ | (refine sh_box (by assumption) rfl rfl rfl rfl rfl rfl ?_; intro _ _ _) | (refine sh_alloc tabOk (by assumption) rfl rfl rfl rfl rfl rfl ?_; intro _ _ _) | (refine sh_store tabOk (by assumption) rfl rfl rfl rfl rfl rfl (by repeat (first | exact Upd.here | apply Upd.there)) (by rfl) ?_; intro _ _) | (refine sh_lit tabOk (by assumption) rfl rfl rfl rfl rfl rfl rfl rfl rfl rfl rfl ?_; intro _ _ _) | refine sh_build tabOk rfl rfl rfl rfl rfl rfl ?_)
    refine retK_ret tabOk (congrArg Array.toList Try.results104) (by repeat (first | exact rv_nil | apply rv_tmp rfl rfl | apply rv_cellH (by assumption) rfl rfl rfl (by repeat (first | exact List.Mem.head _ | apply List.Mem.tail)) rfl)) ?_
    refine ⟨i, rfl, by omega, by omega, ?_, H3⟩
    have : (ys.map (·.2)).all okR = false := by
      rw [List.all_eq_false]
      refine ⟨(ys.getD i rc0).2, List.mem_map.2 ⟨_, gD_mem hin, rfl⟩, by rw [hk]; exact Bool.false_ne_true⟩
    rw [this, decide_eq_true (by omega)]; rfl
  · repeat' (first | refine s_pure tabOk rfl rfl rfl rfl ?_ | refine Stp.imp ?_ | refine aops_nil ?_ | refine aw_reg ?_ | refine aw_seq ?_ | refine s_pass rfl rfl rfl ?_ | refine s_len tabOk rfl rfl rfl rfl ?_ | refine aw_true rfl ?_ | refine aw_false rfl ?_ | refine blk_exit_other rfl ?_ | refine s_arith tabOk rfl rfl rfl rfl (by simp only [InR]; omega) ?_ | ((first | ((fail_if_success refine s_told rfl rfl ?_); refine s_part rfl rfl rfl ?_ ?_) | refine aw_if rfl ?_ ?_) <;> intro hc <;> (first | replace hc := DecT.imp hc | simp only [decs] at hc | skip)) | refine s_index1n tabOk rfl rfl rfl rfl (by omega) ?_ | refine s_indexn tabOk rfl rfl rfl rfl (by omega) ?_ | refine s_index1 tabOk rfl rfl rfl rfl (by omega) (by omega) ?_ | refine sh_load tabOk (by assumption) rfl rfl rfl rfl (by repeat (first | exact List.Mem.head _ | apply List.Mem.tail)) (by rfl) (by rfl) ?_ | refine sh_loada tabOk (by assumption) rfl rfl rfl rfl (by repeat (first | exact List.Mem.head _ | apply List.Mem.tail)) (by rfl) ?_ | (refine sh_box (by assumption) rfl rfl rfl rfl rfl rfl ?_; intro _ _ _) | (refine sh_alloc tabOk (by assumption) rfl rfl rfl rfl rfl rfl ?_; intro _ _ _) | (refine sh_store tabOk (by assumption) rfl rfl rfl rfl rfl rfl (by repeat (first | exact Upd.here | apply Upd.there)) (by rfl) ?_; intro _ _) | (refine sh_lit tabOk (by assumption) rfl rfl rfl rfl rfl rfl rfl rfl rfl rfl rfl ?_; intro _ _ _) | refine sh_build tabOk rfl rfl rfl rfl rfl rfl ?_)
    refine rndh_next (i + 1) ⟨by omega, ?_⟩ (by omega) (by repeat (first | exact less_nil | refine less_cons rfl ?_)) H3
    intro j hj
    by_cases e : j = i
    · subst e; exact hk
    · exact hall j (by omega)
theorem c_ContainsFuncC {v : Value} {ys : List RcY} (hv : SlC W v ys) (hl : ys.length + totC ys ≤ 1048576) (hB : B ≤ W.heap.size) :
    ACalls Try.prog B 73 [v, .func (.func 74) #[] #[]] W (fun u W' => u = .bool (!((ys.map (·.2)).all okR)) ∧ Hp B W W' []) := by
  have H0 : Hp B W W [] := Hp.new hB
  have hv0 := hv
  obtain ⟨a, c, rfl, -⟩ := hv.form
  refine acalls_of Try.func73 rfl Try.ntmps73 (Nat.le_of_ble_eq_true rfl) ?_
  repeat' (first | refine s_pure tabOk rfl rfl rfl rfl ?_ | refine Stp.imp ?_ | refine aops_nil ?_ | refine aw_reg ?_ | refine aw_seq ?_ | refine s_pass rfl rfl rfl ?_ | refine s_len tabOk rfl rfl rfl rfl ?_ | refine aw_true rfl ?_ | refine aw_false rfl ?_ | refine blk_exit_other rfl ?_ | refine s_arith tabOk rfl rfl rfl rfl (by simp only [InR]; omega) ?_ | ((first | ((fail_if_success refine s_told rfl rfl ?_); refine s_part rfl rfl rfl ?_ ?_) | refine aw_if rfl ?_ ?_) <;> intro hc <;> (first | replace hc := DecT.imp hc | simp only [decs] at hc | skip)) | refine s_index1n tabOk rfl rfl rfl rfl (by omega) ?_ | refine s_indexn tabOk rfl rfl rfl rfl (by omega) ?_ | refine s_index1 tabOk rfl rfl rfl rfl (by omega) (by omega) ?_ | refine sh_load tabOk (by assumption) rfl rfl rfl rfl (by repeat (first | exact List.Mem.head _ | apply List.Mem.tail)) (by rfl) (by rfl) ?_ | refine sh_loada tabOk (by assumption) rfl rfl rfl rfl (by repeat (first | exact List.Mem.head _ | apply List.Mem.tail)) (by rfl) ?_ | (refine sh_box (by assumption) rfl rfl rfl rfl rfl rfl ?_; intro _ _ _) | (refine sh_alloc tabOk (by assumption) rfl rfl rfl rfl rfl rfl ?_; intro _ _ _) | (refine sh_store tabOk (by assumption) rfl rfl rfl rfl rfl rfl (by repeat (first | exact Upd.here | apply Upd.there)) (by rfl) ?_; intro _ _) | (refine sh_lit tabOk (by assumption) rfl rfl rfl rfl rfl rfl rfl rfl rfl rfl rfl ?_; intro _ _ _) | refine sh_build tabOk rfl rfl rfl rfl rfl rfl ?_)
  refine s_call rfl rfl rfl rfl ent104 (c_IndexFuncC hv0 hl hB) ?_
  rintro _ W2 ⟨z, rfl, z0, z1, hz, H2⟩
  repeat' (first | refine s_pure tabOk rfl rfl rfl rfl ?_ | refine Stp.imp ?_ | refine aops_nil ?_ | refine aw_reg ?_ | refine aw_seq ?_ | refine s_pass rfl rfl rfl ?_ | refine s_len tabOk rfl rfl rfl rfl ?_ | refine aw_true rfl ?_ | refine aw_false rfl ?_ | refine blk_exit_other rfl ?_ | refine s_arith tabOk rfl rfl rfl rfl (by simp only [InR]; omega) ?_ | ((first | ((fail_if_success refine s_told rfl rfl ?_); refine s_part rfl rfl rfl ?_ ?_) | refine aw_if rfl ?_ ?_) <;> intro hc <;> (first | replace hc := DecT.imp hc | simp only [decs] at hc | skip)) | refine s_index1n tabOk rfl rfl rfl rfl (by omega) ?_ | refine s_indexn tabOk rfl rfl rfl rfl (by omega) ?_ | refine s_index1 tabOk rfl rfl rfl rfl (by omega) (by omega) ?_ | refine sh_load tabOk (by assumption) rfl rfl rfl rfl (by repeat (first | exact List.Mem.head _ | apply List.Mem.tail)) (by rfl) (by rfl) ?_ | refine sh_loada tabOk (by assumption) rfl rfl rfl rfl (by repeat (first | exact List.Mem.head _ | apply List.Mem.tail)) (by rfl) ?_ | (refine sh_box (by assumption) rfl rfl rfl rfl rfl rfl ?_; intro _ _ _) | (refine sh_alloc tabOk (by assumption) rfl rfl rfl rfl rfl rfl ?_; intro _ _ _) | (refine sh_store tabOk (by assumption) rfl rfl rfl rfl rfl rfl (by repeat (first | exact Upd.here | apply Upd.there)) (by rfl) ?_; intro _ _) | (refine sh_lit tabOk (by assumption) rfl rfl rfl rfl rfl rfl rfl rfl rfl rfl rfl ?_; intro _ _ _) | refine sh_build tabOk rfl rfl rfl rfl rfl rfl ?_)
  refine retK_ret tabOk (congrArg Array.toList Try.results73) (by repeat (first | exact rv_nil | apply rv_tmp rfl rfl | apply rv_cellH (by assumption) rfl rfl rfl (by repeat (first | exact List.Mem.head _ | apply List.Mem.tail)) rfl)) ?_
  exact ⟨by rw [← hz]; rfl, H2⟩
set_option maxHeartbeats 4000000 in
theorem hc_impl_StoreRecords {v : Value} {ys : List RcY} (hv : SlC W v ys) (hl : ys.length + totC ys ≤ 1048576) (hbd : BdC ys) (hB : B ≤ W.heap.size) : ACalls Try.prog B 31 [v] W (fun u W' => SrH B W W' u (ys.map (·.2))) := by
  have H0 : Hp B W W [] := Hp.new hB
  have hv0 := hv
  obtain ⟨a, c, rfl, -⟩ := hv.form
  have hml : (ys.map (·.2)).length = ys.length := by simp
  refine acalls_of Try.func31 rfl Try.ntmps31 (Nat.le_of_ble_eq_true rfl) ?_
  by_cases h8 : ys.length ≤ 8
  rotate_left
  · repeat' (first | refine s_pure tabOk rfl rfl rfl rfl ?_ | refine Stp.imp ?_ | refine aops_nil ?_ | refine aw_reg ?_ | refine aw_seq ?_ | refine s_pass rfl rfl rfl ?_ | refine s_len tabOk rfl rfl rfl rfl ?_ | refine aw_true rfl ?_ | refine aw_false rfl ?_ | refine blk_exit_other rfl ?_ | refine s_arith tabOk rfl rfl rfl rfl (by simp only [InR]; omega) ?_ | ((first | ((fail_if_success refine s_told rfl rfl ?_); refine s_part rfl rfl rfl ?_ ?_) | refine aw_if rfl ?_ ?_) <;> intro hc <;> (first | replace hc := DecT.imp hc | simp only [decs] at hc | skip)) | refine s_index1n tabOk rfl rfl rfl rfl (by omega) ?_ | refine s_indexn tabOk rfl rfl rfl rfl (by omega) ?_ | refine s_index1 tabOk rfl rfl rfl rfl (by omega) (by omega) ?_ | refine sh_load tabOk (by assumption) rfl rfl rfl rfl (by repeat (first | exact List.Mem.head _ | apply List.Mem.tail)) (by rfl) (by rfl) ?_ | refine sh_loada tabOk (by assumption) rfl rfl rfl rfl (by repeat (first | exact List.Mem.head _ | apply List.Mem.tail)) (by rfl) ?_ | (refine sh_box (by assumption) rfl rfl rfl rfl rfl rfl ?_; intro _ _ _) | (refine sh_alloc tabOk (by assumption) rfl rfl rfl rfl rfl rfl ?_; intro _ _ _) | (refine sh_store tabOk (by assumption) rfl rfl rfl rfl rfl rfl (by repeat (first | exact Upd.here | apply Upd.there)) (by rfl) ?_; intro _ _) | (refine sh_lit tabOk (by assumption) rfl rfl rfl rfl rfl rfl rfl rfl rfl rfl rfl ?_; intro _ _ _) | refine sh_build tabOk rfl rfl rfl rfl rfl rfl ?_)
    all_goals try (exfalso; omega)
    refine retK_ret tabOk (congrArg Array.toList Try.results31) (by repeat (first | exact rv_nil | apply rv_tmp rfl rfl | apply rv_cellH (by assumption) rfl rfl rfl (by repeat (first | exact List.Mem.head _ | apply List.Mem.tail)) rfl)) ?_
    exact SrH.bad (srOk_long (by omega)) H0
  repeat' (first | refine s_pure tabOk rfl rfl rfl rfl ?_ | refine Stp.imp ?_ | refine aops_nil ?_ | refine aw_reg ?_ | refine aw_seq ?_ | refine s_pass rfl rfl rfl ?_ | refine s_len tabOk rfl rfl rfl rfl ?_ | refine aw_true rfl ?_ | refine aw_false rfl ?_ | refine blk_exit_other rfl ?_ | refine s_arith tabOk rfl rfl rfl rfl (by simp only [InR]; omega) ?_ | ((first | ((fail_if_success refine s_told rfl rfl ?_); refine s_part rfl rfl rfl ?_ ?_) | refine aw_if rfl ?_ ?_) <;> intro hc <;> (first | replace hc := DecT.imp hc | simp only [decs] at hc | skip)) | refine s_index1n tabOk rfl rfl rfl rfl (by omega) ?_ | refine s_indexn tabOk rfl rfl rfl rfl (by omega) ?_ | refine s_index1 tabOk rfl rfl rfl rfl (by omega) (by omega) ?_ | refine sh_load tabOk (by assumption) rfl rfl rfl rfl (by repeat (first | exact List.Mem.head _ | apply List.Mem.tail)) (by rfl) (by rfl) ?_ | refine sh_loada tabOk (by assumption) rfl rfl rfl rfl (by repeat (first | exact List.Mem.head _ | apply List.Mem.tail)) (by rfl) ?_ | (refine sh_box (by assumption) rfl rfl rfl rfl rfl rfl ?_; intro _ _ _) | (refine sh_alloc tabOk (by assumption) rfl rfl rfl rfl rfl rfl ?_; intro _ _ _) | (refine sh_store tabOk (by assumption) rfl rfl rfl rfl rfl rfl (by repeat (first | exact Upd.here | apply Upd.there)) (by rfl) ?_; intro _ _) | (refine sh_lit tabOk (by assumption) rfl rfl rfl rfl rfl rfl rfl rfl rfl rfl rfl ?_; intro _ _ _) | refine sh_build tabOk rfl rfl rfl rfl rfl rfl ?_)
  all_goals try (exfalso; omega)
  refine s_call rfl rfl rfl rfl ent73 (c_ContainsFuncC hv0 hl hB) ?_
  rintro _ W1 ⟨rfl, H1⟩
  cases hall : (ys.map (·.2)).all okR
  · repeat' (first | refine s_pure tabOk rfl rfl rfl rfl ?_ | refine Stp.imp ?_ | refine aops_nil ?_ | refine aw_reg ?_ | refine aw_seq ?_ | refine s_pass rfl rfl rfl ?_ | refine s_len tabOk rfl rfl rfl rfl ?_ | refine aw_true rfl ?_ | refine aw_false rfl ?_ | refine blk_exit_other rfl ?_ | refine s_arith tabOk rfl rfl rfl rfl (by simp only [InR]; omega) ?_ | ((first | ((fail_if_success refine s_told rfl rfl ?_); refine s_part rfl rfl rfl ?_ ?_) | refine aw_if rfl ?_ ?_) <;> intro hc <;> (first | replace hc := DecT.imp hc | simp only [decs] at hc | skip)) | refine s_index1n tabOk rfl rfl rfl rfl (by omega) ?_ | refine s_indexn tabOk rfl rfl rfl rfl (by omega) ?_ | refine s_index1 tabOk rfl rfl rfl rfl (by omega) (by omega) ?_ | refine sh_load tabOk (by assumption) rfl rfl rfl rfl (by repeat (first | exact List.Mem.head _ | apply List.Mem.tail)) (by rfl) (by rfl) ?_ | refine sh_loada tabOk (by assumption) rfl rfl rfl rfl (by repeat (first | exact List.Mem.head _ | apply List.Mem.tail)) (by rfl) ?_ | (refine sh_box (by assumption) rfl rfl rfl rfl rfl rfl ?_; intro _ _ _) | (refine sh_alloc tabOk (by assumption) rfl rfl rfl rfl rfl rfl ?_; intro _ _ _) | (refine sh_store tabOk (by assumption) rfl rfl rfl rfl rfl rfl (by repeat (first | exact Upd.here | apply Upd.there)) (by rfl) ?_; intro _ _) | (refine sh_lit tabOk (by assumption) rfl rfl rfl rfl rfl rfl rfl rfl rfl rfl rfl ?_; intro _ _ _) | refine sh_build tabOk rfl rfl rfl rfl rfl rfl ?_)
    refine retK_ret tabOk (congrArg Array.toList Try.results31) (by repeat (first | exact rv_nil | apply rv_tmp rfl rfl | apply rv_cellH (by assumption) rfl rfl rfl (by repeat (first | exact List.Mem.head _ | apply List.Mem.tail)) rfl)) ?_
    exact SrH.bad (by unfold srOk; rw [hall, Bool.and_false]) H1
  have hokA : ∀ i, i < ys.length → okR (ys.getD i rc0).2 = true := fun i hi => List.all_eq_true.1 hall _ (List.mem_map.2 ⟨_, gD_mem hi, rfl⟩)
  have hgood : srOk (ys.map (·.2)) = true := by unfold srOk; rw [hall, decide_eq_true (by omega)]; rfl
  clear hall
  repeat' (first | refine s_pure tabOk rfl rfl rfl rfl ?_ | refine Stp.imp ?_ | refine aops_nil ?_ | refine aw_reg ?_ | refine aw_seq ?_ | refine s_pass rfl rfl rfl ?_ | refine s_len tabOk rfl rfl rfl rfl ?_ | refine aw_true rfl ?_ | refine aw_false rfl ?_ | refine blk_exit_other rfl ?_ | refine s_arith tabOk rfl rfl rfl rfl (by simp only [InR]; omega) ?_ | ((first | ((fail_if_success refine s_told rfl rfl ?_); refine s_part rfl rfl rfl ?_ ?_) | refine aw_if rfl ?_ ?_) <;> intro hc <;> (first | replace hc := DecT.imp hc | simp only [decs] at hc | skip)) | refine s_index1n tabOk rfl rfl rfl rfl (by omega) ?_ | refine s_indexn tabOk rfl rfl rfl rfl (by omega) ?_ | refine s_index1 tabOk rfl rfl rfl rfl (by omega) (by omega) ?_ | refine sh_load tabOk (by assumption) rfl rfl rfl rfl (by repeat (first | exact List.Mem.head _ | apply List.Mem.tail)) (by rfl) (by rfl) ?_ | refine sh_loada tabOk (by assumption) rfl rfl rfl rfl (by repeat (first | exact List.Mem.head _ | apply List.Mem.tail)) (by rfl) ?_ | (refine sh_box (by assumption) rfl rfl rfl rfl rfl rfl ?_; intro _ _ _) | (refine sh_alloc tabOk (by assumption) rfl rfl rfl rfl rfl rfl ?_; intro _ _ _) | (refine sh_store tabOk (by assumption) rfl rfl rfl rfl rfl rfl (by repeat (first | exact Upd.here | apply Upd.there)) (by rfl) ?_; intro _ _) | (refine sh_lit tabOk (by assumption) rfl rfl rfl rfl rfl rfl rfl rfl rfl rfl rfl ?_; intro _ _ _) | refine sh_build tabOk rfl rfl rfl rfl rfl rfl ?_)
  refine aw_loopH (A := W) (fun i : Nat => [(16, .int .i64 i), (15, .int .i64 ys.length), (14, .slice a ys.length c), (4, .string (catR ((ys.map (·.2)).take i)))]) (fun _ => []) (fun i => i ≤ ys.length ∧ (catR ((ys.map (·.2)).take i)).size ≤ 1000 * i) (fun i => ys.length - i) 0 ⟨by omega, by rw [List.take_zero, catR_nil]; exact Nat.le_refl _⟩ H1 (by rw [List.take_zero, catR_nil]; exact (by repeat (first | exact less_nil | refine less_cons rfl ?_))) ?_
  clear H1
  rintro i W2 ⟨hi, hsz⟩ H2
  by_cases hin : i < ys.length
  rotate_left
  · have hil : i = ys.length := by omega
    subst hil
    rw [← hml, List.take_length]
    rw [hml]
    repeat' (first | refine s_pure tabOk rfl rfl rfl rfl ?_ | refine Stp.imp ?_ | refine aops_nil ?_ | refine aw_reg ?_ | refine aw_seq ?_ | refine s_pass rfl rfl rfl ?_ | refine s_len tabOk rfl rfl rfl rfl ?_ | refine aw_true rfl ?_ | refine aw_false rfl ?_ | refine blk_exit_other rfl ?_ | refine s_arith tabOk rfl rfl rfl rfl (by simp only [InR]; omega) ?_ | ((first | ((fail_if_success refine s_told rfl rfl ?_); refine s_part rfl rfl rfl ?_ ?_) | refine aw_if rfl ?_ ?_) <;> intro hc <;> (first | replace hc := DecT.imp hc | simp only [decs] at hc | skip)) | refine s_index1n tabOk rfl rfl rfl rfl (by omega) ?_ | refine s_indexn tabOk rfl rfl rfl rfl (by omega) ?_ | refine s_index1 tabOk rfl rfl rfl rfl (by omega) (by omega) ?_ | refine sh_load tabOk (by assumption) rfl rfl rfl rfl (by repeat (first | exact List.Mem.head _ | apply List.Mem.tail)) (by rfl) (by rfl) ?_ | refine sh_loada tabOk (by assumption) rfl rfl rfl rfl (by repeat (first | exact List.Mem.head _ | apply List.Mem.tail)) (by rfl) ?_ | (refine sh_box (by assumption) rfl rfl rfl rfl rfl rfl ?_; intro _ _ _) | (refine sh_alloc tabOk (by assumption) rfl rfl rfl rfl rfl rfl ?_; intro _ _ _) | (refine sh_store tabOk (by assumption) rfl rfl rfl rfl rfl rfl (by repeat (first | exact Upd.here | apply Upd.there)) (by rfl) ?_; intro _ _) | (refine sh_lit tabOk (by assumption) rfl rfl rfl rfl rfl rfl rfl rfl rfl rfl rfl ?_; intro _ _ _) | refine sh_build tabOk rfl rfl rfl rfl rfl rfl ?_)
    all_goals try (exfalso; omega)
    refine retK_ret tabOk (congrArg Array.toList Try.results31) (by repeat (first | exact rv_nil | apply rv_tmp rfl rfl | apply rv_cellH (by assumption) rfl rfl rfl (by repeat (first | exact List.Mem.head _ | apply List.Mem.tail)) rfl)) ?_
    exact SrH.good hgood H2
  have hgl := totC_getD hin
  obtain ⟨b, off, rfl, hr⟩ := hv.read (by omega)
  have hrs := hv0.2 i hin
  have hbi := hbd i hin
  have hst := catR_stepC hin
  have hok := hokA i hin
  have hsz2 := stR_size hok
  repeat' (first | refine s_pure tabOk rfl rfl rfl rfl ?_ | refine Stp.imp ?_ | refine aops_nil ?_ | refine aw_reg ?_ | refine aw_seq ?_ | refine s_pass rfl rfl rfl ?_ | refine s_len tabOk rfl rfl rfl rfl ?_ | refine aw_true rfl ?_ | refine aw_false rfl ?_ | refine blk_exit_other rfl ?_ | refine s_arith tabOk rfl rfl rfl rfl (by simp only [InR]; omega) ?_ | ((first | ((fail_if_success refine s_told rfl rfl ?_); refine s_part rfl rfl rfl ?_ ?_) | refine aw_if rfl ?_ ?_) <;> intro hc <;> (first | replace hc := DecT.imp hc | simp only [decs] at hc | skip)) | refine s_index1n tabOk rfl rfl rfl rfl (by omega) ?_ | refine s_indexn tabOk rfl rfl rfl rfl (by omega) ?_ | refine s_index1 tabOk rfl rfl rfl rfl (by omega) (by omega) ?_ | refine sh_load tabOk (by assumption) rfl rfl rfl rfl (by repeat (first | exact List.Mem.head _ | apply List.Mem.tail)) (by rfl) (by rfl) ?_ | refine sh_loada tabOk (by assumption) rfl rfl rfl rfl (by repeat (first | exact List.Mem.head _ | apply List.Mem.tail)) (by rfl) ?_ | (refine sh_box (by assumption) rfl rfl rfl rfl rfl rfl ?_; intro _ _ _) | (refine sh_alloc tabOk (by assumption) rfl rfl rfl rfl rfl rfl ?_; intro _ _ _) | (refine sh_store tabOk (by assumption) rfl rfl rfl rfl rfl rfl (by repeat (first | exact Upd.here | apply Upd.there)) (by rfl) ?_; intro _ _) | (refine sh_lit tabOk (by assumption) rfl rfl rfl rfl rfl rfl rfl rfl rfl rfl rfl ?_; intro _ _ _) | refine sh_build tabOk rfl rfl rfl rfl rfl rfl ?_)
  all_goals try (exfalso; omega)
  refine sh_readA tabOk rcF_len rc0 rfl rfl rfl rfl (H2.rd hr) rfl hin ?_
  generalize ys.getD i rc0 = y at *
  obtain ⟨⟨p, pc⟩, ⟨s, st, sp, xs⟩⟩ := y
  unfold rcN at hgl
  dsimp only at hgl hrs hbi hst hok hsz2
  have hk : recOk s st sp xs.length = true := by unfold okR at hok; exact hok
  have hrg := recOk_range hk
  have hnm := recOk_name hk
  unfold stR at hsz2 hst
  dsimp only at hsz2 hst
  generalize catR ((ys.map (·.2)).take i) = out at *
  repeat' (first | refine s_pure tabOk rfl rfl rfl rfl ?_ | refine Stp.imp ?_ | refine aops_nil ?_ | refine aw_reg ?_ | refine aw_seq ?_ | refine s_pass rfl rfl rfl ?_ | refine s_len tabOk rfl rfl rfl rfl ?_ | refine aw_true rfl ?_ | refine aw_false rfl ?_ | refine blk_exit_other rfl ?_ | refine s_arith tabOk rfl rfl rfl rfl (by simp only [InR]; omega) ?_ | ((first | ((fail_if_success refine s_told rfl rfl ?_); refine s_part rfl rfl rfl ?_ ?_) | refine aw_if rfl ?_ ?_) <;> intro hc <;> (first | replace hc := DecT.imp hc | simp only [decs] at hc | skip)) | refine s_index1n tabOk rfl rfl rfl rfl (by omega) ?_ | refine s_indexn tabOk rfl rfl rfl rfl (by omega) ?_ | refine s_index1 tabOk rfl rfl rfl rfl (by omega) (by omega) ?_ | refine sh_load tabOk (by assumption) rfl rfl rfl rfl (by repeat (first | exact List.Mem.head _ | apply List.Mem.tail)) (by rfl) (by rfl) ?_ | refine sh_loada tabOk (by assumption) rfl rfl rfl rfl (by repeat (first | exact List.Mem.head _ | apply List.Mem.tail)) (by rfl) ?_ | (refine sh_box (by assumption) rfl rfl rfl rfl rfl rfl ?_; intro _ _ _) | (refine sh_alloc tabOk (by assumption) rfl rfl rfl rfl rfl rfl ?_; intro _ _ _) | (refine sh_store tabOk (by assumption) rfl rfl rfl rfl rfl rfl (by repeat (first | exact Upd.here | apply Upd.there)) (by rfl) ?_; intro _ _) | (refine sh_lit tabOk (by assumption) rfl rfl rfl rfl rfl rfl rfl rfl rfl rfl rfl ?_; intro _ _ _) | refine sh_build tabOk rfl rfl rfl rfl rfl rfl ?_)
  refine s_call rfl rfl rfl rfl ent59 (c_impl_storeRecord (s := s) (st := st) (sp := sp) (xs := xs) (recA_of (y := ((p, pc), ⟨s, st, sp, xs⟩)) (hrs.below (Hp.below (by assumption)))) hnm (by omega) hbi (by omega) (by omega) (Hp.size (by assumption))) ?_
  rintro _ W3 ⟨rfl, g3⟩
  have H3 := Hp.grow (by assumption) g3
  repeat' (first | refine s_pure tabOk rfl rfl rfl rfl ?_ | refine Stp.imp ?_ | refine aops_nil ?_ | refine aw_reg ?_ | refine aw_seq ?_ | refine s_pass rfl rfl rfl ?_ | refine s_len tabOk rfl rfl rfl rfl ?_ | refine aw_true rfl ?_ | refine aw_false rfl ?_ | refine blk_exit_other rfl ?_ | refine s_arith tabOk rfl rfl rfl rfl (by simp only [InR]; omega) ?_ | ((first | ((fail_if_success refine s_told rfl rfl ?_); refine s_part rfl rfl rfl ?_ ?_) | refine aw_if rfl ?_ ?_) <;> intro hc <;> (first | replace hc := DecT.imp hc | simp only [decs] at hc | skip)) | refine s_index1n tabOk rfl rfl rfl rfl (by omega) ?_ | refine s_indexn tabOk rfl rfl rfl rfl (by omega) ?_ | refine s_index1 tabOk rfl rfl rfl rfl (by omega) (by omega) ?_ | refine sh_load tabOk (by assumption) rfl rfl rfl rfl (by repeat (first | exact List.Mem.head _ | apply List.Mem.tail)) (by rfl) (by rfl) ?_ | refine sh_loada tabOk (by assumption) rfl rfl rfl rfl (by repeat (first | exact List.Mem.head _ | apply List.Mem.tail)) (by rfl) ?_ | (refine sh_box (by assumption) rfl rfl rfl rfl rfl rfl ?_; intro _ _ _) | (refine sh_alloc tabOk (by assumption) rfl rfl rfl rfl rfl rfl ?_; intro _ _ _) | (refine sh_store tabOk (by assumption) rfl rfl rfl rfl rfl rfl (by repeat (first | exact Upd.here | apply Upd.there)) (by rfl) ?_; intro _ _) | (refine sh_lit tabOk (by assumption) rfl rfl rfl rfl rfl rfl rfl rfl rfl rfl rfl ?_; intro _ _ _) | refine sh_build tabOk rfl rfl rfl rfl rfl rfl ?_)
  refine s_cat (s := out) (t := storeS s st sp xs) rfl rfl rfl rfl (by omega) ?_
  repeat' (first | refine s_pure tabOk rfl rfl rfl rfl ?_ | refine Stp.imp ?_ | refine aops_nil ?_ | refine aw_reg ?_ | refine aw_seq ?_ | refine s_pass rfl rfl rfl ?_ | refine s_len tabOk rfl rfl rfl rfl ?_ | refine aw_true rfl ?_ | refine aw_false rfl ?_ | refine blk_exit_other rfl ?_ | refine s_arith tabOk rfl rfl rfl rfl (by simp only [InR]; omega) ?_ | ((first | ((fail_if_success refine s_told rfl rfl ?_); refine s_part rfl rfl rfl ?_ ?_) | refine aw_if rfl ?_ ?_) <;> intro hc <;> (first | replace hc := DecT.imp hc | simp only [decs] at hc | skip)) | refine s_index1n tabOk rfl rfl rfl rfl (by omega) ?_ | refine s_indexn tabOk rfl rfl rfl rfl (by omega) ?_ | refine s_index1 tabOk rfl rfl rfl rfl (by omega) (by omega) ?_ | refine sh_load tabOk (by assumption) rfl rfl rfl rfl (by repeat (first | exact List.Mem.head _ | apply List.Mem.tail)) (by rfl) (by rfl) ?_ | refine sh_loada tabOk (by assumption) rfl rfl rfl rfl (by repeat (first | exact List.Mem.head _ | apply List.Mem.tail)) (by rfl) ?_ | (refine sh_box (by assumption) rfl rfl rfl rfl rfl rfl ?_; intro _ _ _) | (refine sh_alloc tabOk (by assumption) rfl rfl rfl rfl rfl rfl ?_; intro _ _ _) | (refine sh_store tabOk (by assumption) rfl rfl rfl rfl rfl rfl (by repeat (first | exact Upd.here | apply Upd.there)) (by rfl) ?_; intro _ _) | (refine sh_lit tabOk (by assumption) rfl rfl rfl rfl rfl rfl rfl rfl rfl rfl rfl ?_; intro _ _ _) | refine sh_build tabOk rfl rfl rfl rfl rfl rfl ?_)
  refine rndh_next (i + 1) ⟨by omega, by rw [hst, ByteArray.size_append]; omega⟩ (by omega) (by rw [hst]; exact (by repeat (first | exact less_nil | refine less_cons rfl ?_))) (Hp.sub (by assumption) (by repeat (first | exact List.nil_sublist _ | refine List.Sublist.cons_cons _ ?_ | refine List.Sublist.cons _ ?_)))
end
end Go.Proofs.Ytmplincflbhmiaa
namespace Go.Proofs.Ytmplincflbhmiaa
set_option linter.unusedSimpArgs false
set_option linter.unusedVariables false
open Go Cn Go.RowKit
theorem or_low {n b : Nat} (hn : n < 4294967296) (hb : b < 256) : bits .or .i64 ((n * 256 : Nat) : Int) (b : Int) = ((n * 256 + b : Nat) : Int) := by
  have h2 : bits .or .i64 ((n * 256 : Nat) : Int) (b : Int) = IntKind.i64.wrap (((BitVec.ofInt 64 ((n * 256 : Nat) : Int) ||| BitVec.ofInt 64 (b : Int)).toNat : Nat) : Int) := rfl
  rw [h2]
  have h1 : (BitVec.ofInt 64 ((n * 256 : Nat) : Int) ||| BitVec.ofInt 64 (b : Int)).toNat = n * 256 + b := by
    rw [BitVec.toNat_or, BitVec.toNat_ofInt, BitVec.toNat_ofInt]
    have e1 : (((n * 256 : Nat) : Int) % ((2 ^ 64 : Nat) : Int)).toNat = n * 256 := by omega
    have e2 : ((b : Int) % ((2 ^ 64 : Nat) : Int)).toNat = b := by omega
    rw [e1, e2]
    have := Nat.two_pow_add_eq_or_of_lt (i := 8) (b := b) hb n
    rw [show n * 256 = 2 ^ 8 * n by omega, ← this]
  rw [h1, wrap_inR (by simp only [InR]; omega)]
/-- the number of the last j bytes, the least first -/
def hiN (s : ByteArray) : Nat → Nat
  | 0 => 0
  | j + 1 => hiN s j * 256 + bt s (s.size - 1 - j)
theorem hiN_zero (s : ByteArray) : hiN s 0 = 0 := rfl
theorem hiN_succ (s : ByteArray) (j : Nat) : hiN s (j + 1) = hiN s j * 256 + bt s (s.size - 1 - j) := rfl
theorem hiN_lt (s : ByteArray) : ∀ j, hiN s j < 256 ^ j
  | 0 => by rw [hiN_zero]; decide
  | j + 1 => by
    have h1 := hiN_lt s j
    have h2 := bt_lt s (s.size - 1 - j)
    rw [hiN_succ, Nat.pow_succ]; omega
theorem hiN_2 {s : ByteArray} (h : s.size = 2) : hiN s s.size = bt s 0 + 256 * bt s 1 := by
  rw [h, hiN_succ, hiN_succ, hiN_zero, h]
  simp only [Nat.sub_zero, Nat.reduceSub]
  omega
theorem hiN_4 {s : ByteArray} (h : s.size = 4) : hiN s s.size = bt s 0 + 256 * bt s 1 + 65536 * bt s 2 + 16777216 * bt s 3 := by
  rw [h, hiN_succ, hiN_succ, hiN_succ, hiN_succ, hiN_zero, h]
  simp only [Nat.sub_zero, Nat.reduceSub]
  omega
attribute [irreducible] hiN
section
variable {B : Nat} {A W W' : World} {L : List Res}
theorem c_impl_fromLittle {s : ByteArray} (hs : s.size ≤ 4) : ACalls Try.prog B 98 [.string s] W (fun r W' => r = .int .i64 (hiN s s.size) ∧ W' = W) := by
  refine acalls_of Try.func98 rfl Try.ntmps98 (Nat.le_of_ble_eq_true rfl) ?_
  repeat' (first
      | refine s_pure tabOk rfl rfl rfl rfl ?_
      | refine aops_nil ?_
      | refine thn_normal ?_
      | refine aw_seq ?_
      | refine aw_reg ?_
      | refine s_pass rfl rfl rfl ?_
      | refine s_len tabOk rfl rfl rfl rfl ?_
      | refine aw_true rfl ?_
      | refine aw_false rfl ?_
      | refine aw_block ?_
      | refine aw_skip ?_
      | refine aw_exit ?_
      | refine blk_exit ?_
      | refine blk_exit_other rfl ?_
      | refine blk_normal ?_
      | refine thn_exit ?_
      | refine thn_ret ?_
      | refine blk_ret ?_
      | refine rnd_ret ?_
      | refine rnd_exit ?_
      | refine aw_ret ?_
      | refine s_arith tabOk rfl rfl rfl rfl (by simp only [InR]; omega) ?_
      | ((fail_if_success refine s_told rfl rfl ?_); refine s_part rfl rfl rfl ?_ ?_ <;> intro hc <;> (first | replace hc := of_decide_eq_true hc | replace hc := of_decide_eq_false hc | replace hc := eq_of_beq hc | skip))
      | (refine aw_if rfl ?_ ?_ <;> intro hc <;> (first | replace hc := of_decide_eq_true hc | replace hc := of_decide_eq_false hc | replace hc := eq_of_beq hc | skip))
      | refine s_index1 tabOk rfl rfl rfl rfl (by omega) (by omega) ?_)
  refine aw_loop (fun j : Nat => [(4, .int .i64 ((s.size : Int) - 1 - j)), (3, .int .i64 (hiN s j)), (0, .string s)]) (fun _ => W) (fun j => j ≤ s.size) (fun j => s.size - j) 0 (by omega) (by rw [hiN_zero, Int.natCast_zero, Int.sub_zero]; exact (by repeat (first | exact less_nil | refine less_cons rfl ?_))) rfl ?_
  intro j hj
  have hlt := hiN_lt s j
  have hp : 256 ^ j ≤ 256 ^ 4 := Nat.pow_le_pow_right (by decide) (by omega)
  have hb := bt_lt s (s.size - 1 - j)
  repeat' (first
      | refine s_pure tabOk rfl rfl rfl rfl ?_
      | refine aops_nil ?_
      | refine thn_normal ?_
      | refine aw_seq ?_
      | refine aw_reg ?_
      | refine s_pass rfl rfl rfl ?_
      | refine s_len tabOk rfl rfl rfl rfl ?_
      | refine aw_true rfl ?_
      | refine aw_false rfl ?_
      | refine aw_block ?_
      | refine aw_skip ?_
      | refine aw_exit ?_
      | refine blk_exit ?_
      | refine blk_exit_other rfl ?_
      | refine blk_normal ?_
      | refine thn_exit ?_
      | refine thn_ret ?_
      | refine blk_ret ?_
      | refine rnd_ret ?_
      | refine rnd_exit ?_
      | refine aw_ret ?_
      | refine s_arith tabOk rfl rfl rfl rfl (by simp only [InR]; omega) ?_
      | ((fail_if_success refine s_told rfl rfl ?_); refine s_part rfl rfl rfl ?_ ?_ <;> intro hc <;> (first | replace hc := of_decide_eq_true hc | replace hc := of_decide_eq_false hc | replace hc := eq_of_beq hc | skip))
      | (refine aw_if rfl ?_ ?_ <;> intro hc <;> (first | replace hc := of_decide_eq_true hc | replace hc := of_decide_eq_false hc | replace hc := eq_of_beq hc | skip))
      | refine s_index1 tabOk rfl rfl rfl rfl (by omega) (by omega) ?_)
  · refine s_shl rfl rfl rfl rfl (by decide) (by decide) ?_
    rw [show IntKind.i64.wrap ((hiN s j : Int) * 2 ^ (8 : Int).toNat) = ((hiN s j * 256 : Nat) : Int) by
      rw [show (8 : Int).toNat = 8 from rfl, wrap_inR (by simp only [InR]; omega)]; omega]
    repeat' (first
      | refine s_pure tabOk rfl rfl rfl rfl ?_
      | refine aops_nil ?_
      | refine thn_normal ?_
      | refine aw_seq ?_
      | refine aw_reg ?_
      | refine s_pass rfl rfl rfl ?_
      | refine s_len tabOk rfl rfl rfl rfl ?_
      | refine aw_true rfl ?_
      | refine aw_false rfl ?_
      | refine aw_block ?_
      | refine aw_skip ?_
      | refine aw_exit ?_
      | refine blk_exit ?_
      | refine blk_exit_other rfl ?_
      | refine blk_normal ?_
      | refine thn_exit ?_
      | refine thn_ret ?_
      | refine blk_ret ?_
      | refine rnd_ret ?_
      | refine rnd_exit ?_
      | refine aw_ret ?_
      | refine s_arith tabOk rfl rfl rfl rfl (by simp only [InR]; omega) ?_
      | ((fail_if_success refine s_told rfl rfl ?_); refine s_part rfl rfl rfl ?_ ?_ <;> intro hc <;> (first | replace hc := of_decide_eq_true hc | replace hc := of_decide_eq_false hc | replace hc := eq_of_beq hc | skip))
      | (refine aw_if rfl ?_ ?_ <;> intro hc <;> (first | replace hc := of_decide_eq_true hc | replace hc := of_decide_eq_false hc | replace hc := eq_of_beq hc | skip))
      | refine s_index1 tabOk rfl rfl rfl rfl (by omega) (by omega) ?_)
    refine s_byte tabOk rfl rfl rfl rfl (by omega) (by omega) ?_
    rw [show ((s.size : Int) - 1 - j).toNat = s.size - 1 - j by omega]
    repeat' (first
      | refine s_pure tabOk rfl rfl rfl rfl ?_
      | refine aops_nil ?_
      | refine thn_normal ?_
      | refine aw_seq ?_
      | refine aw_reg ?_
      | refine s_pass rfl rfl rfl ?_
      | refine s_len tabOk rfl rfl rfl rfl ?_
      | refine aw_true rfl ?_
      | refine aw_false rfl ?_
      | refine aw_block ?_
      | refine aw_skip ?_
      | refine aw_exit ?_
      | refine blk_exit ?_
      | refine blk_exit_other rfl ?_
      | refine blk_normal ?_
      | refine thn_exit ?_
      | refine thn_ret ?_
      | refine blk_ret ?_
      | refine rnd_ret ?_
      | refine rnd_exit ?_
      | refine aw_ret ?_
      | refine s_arith tabOk rfl rfl rfl rfl (by simp only [InR]; omega) ?_
      | ((fail_if_success refine s_told rfl rfl ?_); refine s_part rfl rfl rfl ?_ ?_ <;> intro hc <;> (first | replace hc := of_decide_eq_true hc | replace hc := of_decide_eq_false hc | replace hc := eq_of_beq hc | skip))
      | (refine aw_if rfl ?_ ?_ <;> intro hc <;> (first | replace hc := of_decide_eq_true hc | replace hc := of_decide_eq_false hc | replace hc := eq_of_beq hc | skip))
      | refine s_index1 tabOk rfl rfl rfl rfl (by omega) (by omega) ?_)
    refine s_bits rfl rfl rfl rfl rfl ?_
    rw [or_low (by omega) hb, ← hiN_succ]
    repeat' (first
      | refine s_pure tabOk rfl rfl rfl rfl ?_
      | refine aops_nil ?_
      | refine thn_normal ?_
      | refine aw_seq ?_
      | refine aw_reg ?_
      | refine s_pass rfl rfl rfl ?_
      | refine s_len tabOk rfl rfl rfl rfl ?_
      | refine aw_true rfl ?_
      | refine aw_false rfl ?_
      | refine aw_block ?_
      | refine aw_skip ?_
      | refine aw_exit ?_
      | refine blk_exit ?_
      | refine blk_exit_other rfl ?_
      | refine blk_normal ?_
      | refine thn_exit ?_
      | refine thn_ret ?_
      | refine blk_ret ?_
      | refine rnd_ret ?_
      | refine rnd_exit ?_
      | refine aw_ret ?_
      | refine s_arith tabOk rfl rfl rfl rfl (by simp only [InR]; omega) ?_
      | ((fail_if_success refine s_told rfl rfl ?_); refine s_part rfl rfl rfl ?_ ?_ <;> intro hc <;> (first | replace hc := of_decide_eq_true hc | replace hc := of_decide_eq_false hc | replace hc := eq_of_beq hc | skip))
      | (refine aw_if rfl ?_ ?_ <;> intro hc <;> (first | replace hc := of_decide_eq_true hc | replace hc := of_decide_eq_false hc | replace hc := eq_of_beq hc | skip))
      | refine s_index1 tabOk rfl rfl rfl rfl (by omega) (by omega) ?_)
    refine rnd_next (j + 1) (by omega) (by omega) (by rw [show ((s.size : Int) - 1 - ((j + 1 : Nat) : Int)) = (s.size : Int) - 1 - j - 1 by omega]; exact (by repeat (first | exact less_nil | refine less_cons rfl ?_))) rfl
  · have hil : j = s.size := by omega
    subst hil
    exact retK_ret tabOk (congrArg Array.toList Try.results98) (rv_tmp rfl rfl rv_nil) ⟨rfl, rfl⟩
/-- how many bytes the first record takes -/
def lonZ (s : ByteArray) : Nat := 15 + bt s 4 + bt s (11 + bt s 4) + 256 * bt s (12 + bt s 4)
@[irreducible] def lonN (s : ByteArray) : Nat := if s.size < 5 then 0 else if s.size < 13 + bt s 4 then 0 else if s.size < lonZ s then 0 else lonZ s
end
def ldN (s : ByteArray) : Nat := 5 + bt s 4
def ldName (s : ByteArray) : ByteArray := s.extract 5 (ldN s)
def ldSt (s : ByteArray) : Nat := bt s (ldN s) + 256 * bt s (ldN s + 1) + 65536 * bt s (ldN s + 2) + 16777216 * bt s (ldN s + 3)
def ldSp (s : ByteArray) : Nat := bt s (ldN s + 4) + 256 * bt s (ldN s + 5)
def ldBody (s : ByteArray) : ByteArray := s.extract (ldN s + 8) (lonZ s - 2)
def ldOk (s : ByteArray) : Bool := uOk 28 (ldBody s) && (recOk (ldName s) (ldSt s) (ldSp s) (uVal 28 (ldBody s)).length && decide (storeS (ldName s) (ldSt s) (ldSp s) (uVal 28 (ldBody s)) = s.extract 0 (lonZ s)))
@[irreducible] def lodOk (s : ByteArray) : Bool := decide (lonN s ≠ 0) && (decide (lonN s = s.size) && ldOk s)
@[irreducible] def lodR (s : ByteArray) : ByteArray × Int × Int × List Nat := if lodOk s then (ldName s, ldSt s, ldSp s, uVal 28 (ldBody s)) else (⟨#[]⟩, 0, 0, [])
theorem lonN_ne {s : ByteArray} (h : lonN s ≠ 0) : lonN s = lonZ s ∧ ¬ s.size < 5 ∧ ¬ s.size < 13 + bt s 4 ∧ lonZ s ≤ s.size := by
  unfold lonN at h ⊢
  split at h
  · exact absurd rfl h
  · split at h
    · exact absurd rfl h
    · split at h
      · exact absurd rfl h
      · rename_i h1 h2 h3
        rw [if_neg h1, if_neg h2, if_neg h3]
        exact ⟨rfl, h1, h2, by omega⟩
theorem uVal_bd {lim : Nat} (s : ByteArray) : ∀ x ∈ uVal lim s, x < 4294967296 := by
  cases hk : uOk lim s with
  | false => rw [uVal_bad hk]; intro x hx; cases hx
  | true =>
    cases hq : uTo lim s s.size with
    | none => unfold uOk at hk; rw [hq] at hk; cases hk
    | some st => rw [uVal_some hq hk]; exact (uTo_inv (Nat.le_refl _) hq).ob
section
variable {B : Nat} {A W W' : World} {L : List Res}
def LdH (B : Nat) (W W' : World) (r : Value) (s : ByteArray) : Prop :=
  ∃ a c, r = .tuple #[.agg #[.string (lodR s).1, .int .i64 (lodR s).2.1, .int .i64 (lodR s).2.2.1, .slice a (lodR s).2.2.2.length c], .bool (lodOk s)] ∧ Hp B W W' [fRow (.slice a (lodR s).2.2.2.length c) (lodR s).2.2.2]
theorem LdH.bad {s : ByteArray} (hk : lodOk s = false) (hb : Hp B W W' []) : LdH B W W' (.tuple #[.agg #[.string ⟨#[]⟩, .int .i64 0, .int .i64 0, .slice none 0 0], .bool false]) s := by
  unfold LdH lodR
  rw [hk]
  exact ⟨none, 0, rfl, hp_nilF hb⟩
end
end Go.Proofs.Ytmplincflbhmiaa
namespace Go.Proofs.Ytmplincflbhmiaa
set_option linter.unusedSimpArgs false
set_option linter.unusedVariables false
open Go Cn Go.RowKit
@[irreducible] def fstOk (s : ByteArray) : Bool := decide (lonN s ≠ 0) && ldOk s
@[irreducible] def fstR (s : ByteArray) : (ByteArray × Int × Int × List Nat) × Nat := if fstOk s then ((ldName s, ldSt s, ldSp s, uVal 28 (ldBody s)), lonZ s) else ((⟨#[]⟩, 0, 0, []), 0)
theorem lonN_0 {s : ByteArray} (h : s.size < 5 ∨ s.size < 13 + bt s 4 ∨ s.size < lonZ s) : lonN s = 0 := by
  unfold lonN
  split
  · rfl
  · split
    · rfl
    · split
      · rfl
      · omega
theorem lonN_z {s : ByteArray} (h1 : ¬ s.size < 5) (h2 : ¬ s.size < 13 + bt s 4) (h3 : ¬ s.size < lonZ s) : lonN s = lonZ s := by
  unfold lonN
  rw [if_neg h1, if_neg h2, if_neg h3]
section
variable {B : Nat} {A W W' : World} {L : List Res}
def LfH (B : Nat) (W W' : World) (r : Value) (s : ByteArray) : Prop :=
  ∃ a c, r = .tuple #[.agg #[.string (fstR s).1.1, .int .i64 (fstR s).1.2.1, .int .i64 (fstR s).1.2.2.1, .slice a (fstR s).1.2.2.2.length c], .int .i64 (fstR s).2, .bool (fstOk s)] ∧ Hp B W W' [fRow (.slice a (fstR s).1.2.2.2.length c) (fstR s).1.2.2.2]
theorem LfH.bad {s : ByteArray} (hk : fstOk s = false) (hb : Hp B W W' []) : LfH B W W' (.tuple #[.agg #[.string ⟨#[]⟩, .int .i64 0, .int .i64 0, .slice none 0 0], .int .i64 0, .bool false]) s := by
  unfold LfH fstR
  rw [hk]
  exact ⟨none, 0, rfl, hp_nilF hb⟩
set_option maxHeartbeats 4000000 in
theorem hc_impl_loadFirst {s : ByteArray} (hs : s.size ≤ 1048576) (hB : B ≤ W.heap.size) : ACalls Try.prog B 60 [.string s] W (fun r W' => LfH B W W' r s) := by
  have H0 : Hp B W W [] := Hp.new hB
  have hb4 := bt_lt s 4
  have hzz : lonZ s = 15 + bt s 4 + bt s (11 + bt s 4) + 256 * bt s (12 + bt s 4) := rfl
  refine acalls_of Try.func60 rfl Try.ntmps60 (Nat.le_of_ble_eq_true rfl) ?_
  repeat' (first | refine s_pure tabOk rfl rfl rfl rfl ?_ | refine Stp.imp ?_ | refine aops_nil ?_ | refine aw_reg ?_ | refine aw_seq ?_ | refine s_pass rfl rfl rfl ?_ | refine s_len tabOk rfl rfl rfl rfl ?_ | refine aw_true rfl ?_ | refine aw_false rfl ?_ | refine blk_exit_other rfl ?_ | refine s_arith tabOk rfl rfl rfl rfl (by simp only [InR]; omega) ?_ | ((first | ((fail_if_success refine s_told rfl rfl ?_); refine s_part rfl rfl rfl ?_ ?_) | refine aw_if rfl ?_ ?_) <;> intro hc <;> (first | replace hc := DecT.imp hc | simp only [decs] at hc | skip)) | refine s_index1n tabOk rfl rfl rfl rfl (by omega) ?_ | refine s_indexn tabOk rfl rfl rfl rfl (by omega) ?_ | refine s_index1 tabOk rfl rfl rfl rfl (by omega) (by omega) ?_ | refine sh_load tabOk (by assumption) rfl rfl rfl rfl (by repeat (first | exact List.Mem.head _ | apply List.Mem.tail)) (by rfl) (by rfl) ?_ | refine sh_loada tabOk (by assumption) rfl rfl rfl rfl (by repeat (first | exact List.Mem.head _ | apply List.Mem.tail)) (by rfl) ?_ | (refine sh_box (by assumption) rfl rfl rfl rfl rfl rfl ?_; intro _ _ _) | (refine sh_alloc tabOk (by assumption) rfl rfl rfl rfl rfl rfl ?_; intro _ _ _) | (refine sh_store tabOk (by assumption) rfl rfl rfl rfl rfl rfl (by repeat (first | exact Upd.here | apply Upd.there)) (by rfl) ?_; intro _ _) | (refine sh_lit tabOk (by assumption) rfl rfl rfl rfl rfl rfl rfl rfl rfl rfl rfl ?_; intro _ _ _) | refine sh_build tabOk rfl rfl rfl rfl rfl rfl ?_)
  · refine retK_ret tabOk (congrArg Array.toList Try.results60) (by repeat (first | exact rv_nil | apply rv_tmp rfl rfl | apply rv_cellH (by assumption) rfl rfl rfl (by repeat (first | exact List.Mem.head _ | apply List.Mem.tail)) rfl)) ?_
    exact LfH.bad (by unfold fstOk; rw [lonN_0 (by omega)]; rfl) (Hp.sub (by assumption) (by repeat (first | exact List.nil_sublist _ | refine List.Sublist.cons_cons _ ?_ | refine List.Sublist.cons _ ?_)))
  have c1 : ¬ s.size < 5 := by omega
  clear hc
  refine s_byte tabOk rfl rfl rfl rfl (by omega) (by omega) ?_
  rw [show (4 : Int).toNat = 4 from rfl]
  repeat' (first | refine s_pure tabOk rfl rfl rfl rfl ?_ | refine Stp.imp ?_ | refine aops_nil ?_ | refine aw_reg ?_ | refine aw_seq ?_ | refine s_pass rfl rfl rfl ?_ | refine s_len tabOk rfl rfl rfl rfl ?_ | refine aw_true rfl ?_ | refine aw_false rfl ?_ | refine blk_exit_other rfl ?_ | refine s_arith tabOk rfl rfl rfl rfl (by simp only [InR]; omega) ?_ | ((first | ((fail_if_success refine s_told rfl rfl ?_); refine s_part rfl rfl rfl ?_ ?_) | refine aw_if rfl ?_ ?_) <;> intro hc <;> (first | replace hc := DecT.imp hc | simp only [decs] at hc | skip)) | refine s_index1n tabOk rfl rfl rfl rfl (by omega) ?_ | refine s_indexn tabOk rfl rfl rfl rfl (by omega) ?_ | refine s_index1 tabOk rfl rfl rfl rfl (by omega) (by omega) ?_ | refine sh_load tabOk (by assumption) rfl rfl rfl rfl (by repeat (first | exact List.Mem.head _ | apply List.Mem.tail)) (by rfl) (by rfl) ?_ | refine sh_loada tabOk (by assumption) rfl rfl rfl rfl (by repeat (first | exact List.Mem.head _ | apply List.Mem.tail)) (by rfl) ?_ | (refine sh_box (by assumption) rfl rfl rfl rfl rfl rfl ?_; intro _ _ _) | (refine sh_alloc tabOk (by assumption) rfl rfl rfl rfl rfl rfl ?_; intro _ _ _) | (refine sh_store tabOk (by assumption) rfl rfl rfl rfl rfl rfl (by repeat (first | exact Upd.here | apply Upd.there)) (by rfl) ?_; intro _ _) | (refine sh_lit tabOk (by assumption) rfl rfl rfl rfl rfl rfl rfl rfl rfl rfl rfl ?_; intro _ _ _) | refine sh_build tabOk rfl rfl rfl rfl rfl rfl ?_)
  · refine retK_ret tabOk (congrArg Array.toList Try.results60) (by repeat (first | exact rv_nil | apply rv_tmp rfl rfl | apply rv_cellH (by assumption) rfl rfl rfl (by repeat (first | exact List.Mem.head _ | apply List.Mem.tail)) rfl)) ?_
    exact LfH.bad (by unfold fstOk; rw [lonN_0 (by omega)]; rfl) (Hp.sub (by assumption) (by repeat (first | exact List.nil_sublist _ | refine List.Sublist.cons_cons _ ?_ | refine List.Sublist.cons _ ?_)))
  have c2 : ¬ s.size < 13 + bt s 4 := by omega
  clear hc
  refine s_byte tabOk rfl rfl rfl rfl (by omega) (by omega) ?_
  rw [show (4 : Int).toNat = 4 from rfl]
  repeat' (first | refine s_pure tabOk rfl rfl rfl rfl ?_ | refine Stp.imp ?_ | refine aops_nil ?_ | refine aw_reg ?_ | refine aw_seq ?_ | refine s_pass rfl rfl rfl ?_ | refine s_len tabOk rfl rfl rfl rfl ?_ | refine aw_true rfl ?_ | refine aw_false rfl ?_ | refine blk_exit_other rfl ?_ | refine s_arith tabOk rfl rfl rfl rfl (by simp only [InR]; omega) ?_ | ((first | ((fail_if_success refine s_told rfl rfl ?_); refine s_part rfl rfl rfl ?_ ?_) | refine aw_if rfl ?_ ?_) <;> intro hc <;> (first | replace hc := DecT.imp hc | simp only [decs] at hc | skip)) | refine s_index1n tabOk rfl rfl rfl rfl (by omega) ?_ | refine s_indexn tabOk rfl rfl rfl rfl (by omega) ?_ | refine s_index1 tabOk rfl rfl rfl rfl (by omega) (by omega) ?_ | refine sh_load tabOk (by assumption) rfl rfl rfl rfl (by repeat (first | exact List.Mem.head _ | apply List.Mem.tail)) (by rfl) (by rfl) ?_ | refine sh_loada tabOk (by assumption) rfl rfl rfl rfl (by repeat (first | exact List.Mem.head _ | apply List.Mem.tail)) (by rfl) ?_ | (refine sh_box (by assumption) rfl rfl rfl rfl rfl rfl ?_; intro _ _ _) | (refine sh_alloc tabOk (by assumption) rfl rfl rfl rfl rfl rfl ?_; intro _ _ _) | (refine sh_store tabOk (by assumption) rfl rfl rfl rfl rfl rfl (by repeat (first | exact Upd.here | apply Upd.there)) (by rfl) ?_; intro _ _) | (refine sh_lit tabOk (by assumption) rfl rfl rfl rfl rfl rfl rfl rfl rfl rfl rfl ?_; intro _ _ _) | refine sh_build tabOk rfl rfl rfl rfl rfl rfl ?_)
  refine s_cutS tabOk rfl rfl rfl rfl (by omega) (by omega) (by omega) ?_
  rw [show (5 + (bt s 4 : Int) + 6).toNat = 11 + bt s 4 by omega, show (5 + (bt s 4 : Int) + 8).toNat = 13 + bt s 4 by omega]
  have sz2 : (s.extract (11 + bt s 4) (13 + bt s 4)).size = 2 := by rw [extract_size (by omega)]; omega
  have hf2 := hiN_2 sz2
  rw [bt_extract (by omega) (by omega), bt_extract (by omega) (by omega), Nat.add_zero, show 11 + bt s 4 + 1 = 12 + bt s 4 by omega] at hf2
  have hb5 := bt_lt s (11 + bt s 4)
  have hb6 := bt_lt s (12 + bt s 4)
  refine s_call rfl rfl rfl rfl ent98 (c_impl_fromLittle (by omega)) ?_
  rintro _ _ ⟨rfl, rfl⟩
  rw [hf2]
  repeat' (first | refine s_pure tabOk rfl rfl rfl rfl ?_ | refine Stp.imp ?_ | refine aops_nil ?_ | refine aw_reg ?_ | refine aw_seq ?_ | refine s_pass rfl rfl rfl ?_ | refine s_len tabOk rfl rfl rfl rfl ?_ | refine aw_true rfl ?_ | refine aw_false rfl ?_ | refine blk_exit_other rfl ?_ | refine s_arith tabOk rfl rfl rfl rfl (by simp only [InR]; omega) ?_ | ((first | ((fail_if_success refine s_told rfl rfl ?_); refine s_part rfl rfl rfl ?_ ?_) | refine aw_if rfl ?_ ?_) <;> intro hc <;> (first | replace hc := DecT.imp hc | simp only [decs] at hc | skip)) | refine s_index1n tabOk rfl rfl rfl rfl (by omega) ?_ | refine s_indexn tabOk rfl rfl rfl rfl (by omega) ?_ | refine s_index1 tabOk rfl rfl rfl rfl (by omega) (by omega) ?_ | refine sh_load tabOk (by assumption) rfl rfl rfl rfl (by repeat (first | exact List.Mem.head _ | apply List.Mem.tail)) (by rfl) (by rfl) ?_ | refine sh_loada tabOk (by assumption) rfl rfl rfl rfl (by repeat (first | exact List.Mem.head _ | apply List.Mem.tail)) (by rfl) ?_ | (refine sh_box (by assumption) rfl rfl rfl rfl rfl rfl ?_; intro _ _ _) | (refine sh_alloc tabOk (by assumption) rfl rfl rfl rfl rfl rfl ?_; intro _ _ _) | (refine sh_store tabOk (by assumption) rfl rfl rfl rfl rfl rfl (by repeat (first | exact Upd.here | apply Upd.there)) (by rfl) ?_; intro _ _) | (refine sh_lit tabOk (by assumption) rfl rfl rfl rfl rfl rfl rfl rfl rfl rfl rfl ?_; intro _ _ _) | refine sh_build tabOk rfl rfl rfl rfl rfl rfl ?_)
  · refine retK_ret tabOk (congrArg Array.toList Try.results60) (by repeat (first | exact rv_nil | apply rv_tmp rfl rfl | apply rv_cellH (by assumption) rfl rfl rfl (by repeat (first | exact List.Mem.head _ | apply List.Mem.tail)) rfl)) ?_
    exact LfH.bad (by unfold fstOk; rw [lonN_0 (by omega)]; rfl) (Hp.sub (by assumption) (by repeat (first | exact List.nil_sublist _ | refine List.Sublist.cons_cons _ ?_ | refine List.Sublist.cons _ ?_)))
  have c3 : ¬ s.size < lonZ s := by omega
  have e1 := lonN_z c1 c2 c3
  clear hc
  have hnn : ldN s = 5 + bt s 4 := rfl
  rw [show (5 + (bt s 4 : Int) + 8 + ((bt s (11 + bt s 4) + 256 * bt s (12 + bt s 4) : Nat) : Int) + 2) = ((lonZ s : Nat) : Int) by omega, show (5 + (bt s 4 : Int)) = ((ldN s : Nat) : Int) by omega]
  refine s_cutS tabOk rfl rfl rfl rfl (by omega) (by omega) (by omega) ?_
  rw [show s.extract ((ldN s : Int) + 8).toNat ((lonZ s : Int) - 2).toNat = ldBody s by unfold ldBody; congr 1; omega]
  have hbs : (ldBody s).size ≤ 1048576 := by unfold ldBody; rw [extract_size (by omega)]; omega
  have hns : (ldName s).size ≤ 1048576 := by unfold ldName; rw [extract_size (by omega)]; omega
  refine s_call rfl rfl rfl rfl ent24 (hc_impl_UnpackRecord hbs (Hp.size (by assumption))) ?_
  rintro v10 W10 hU
  unfold UnH at hU
  rw [(uOk_same _).1, (uOk_same _).2] at hU
  obtain ⟨a10, c10, rfl, g10⟩ := hU
  rename_i b2 X2 G2
  have G10 := Hp.call1 G2 g10
  have hvl := uVal_len (lim := 28) (ldBody s)
  have hcd : ∀ x ∈ uVal 28 (ldBody s), x < 4294967296 := uVal_bd _
  have hok : fstOk s = ldOk s := by unfold fstOk; rw [e1, decide_eq_true (by omega)]; rfl
  have hldr : fstOk s = true → fstR s = ((ldName s, ((ldSt s : Nat) : Int), ((ldSp s : Nat) : Int), uVal 28 (ldBody s)), lonZ s) := fun h => by unfold fstR; rw [h]; rfl
  have hld : ldOk s = (uOk 28 (ldBody s) && (recOk (ldName s) (ldSt s) (ldSp s) (uVal 28 (ldBody s)).length && decide (storeS (ldName s) (ldSt s) (ldSp s) (uVal 28 (ldBody s)) = s.extract 0 (lonZ s)))) := rfl
  clear g10
  generalize uVal 28 (ldBody s) = vs at *
  generalize uOk 28 (ldBody s) = ok at *
  repeat' (first | refine s_pure tabOk rfl rfl rfl rfl ?_ | refine Stp.imp ?_ | refine aops_nil ?_ | refine aw_reg ?_ | refine aw_seq ?_ | refine s_pass rfl rfl rfl ?_ | refine s_len tabOk rfl rfl rfl rfl ?_ | refine aw_true rfl ?_ | refine aw_false rfl ?_ | refine blk_exit_other rfl ?_ | refine s_arith tabOk rfl rfl rfl rfl (by simp only [InR]; omega) ?_ | ((first | ((fail_if_success refine s_told rfl rfl ?_); refine s_part rfl rfl rfl ?_ ?_) | refine aw_if rfl ?_ ?_) <;> intro hc <;> (first | replace hc := DecT.imp hc | simp only [decs] at hc | skip)) | refine s_index1n tabOk rfl rfl rfl rfl (by omega) ?_ | refine s_indexn tabOk rfl rfl rfl rfl (by omega) ?_ | refine s_index1 tabOk rfl rfl rfl rfl (by omega) (by omega) ?_ | refine sh_load tabOk (by assumption) rfl rfl rfl rfl (by repeat (first | exact List.Mem.head _ | apply List.Mem.tail)) (by rfl) (by rfl) ?_ | refine sh_loada tabOk (by assumption) rfl rfl rfl rfl (by repeat (first | exact List.Mem.head _ | apply List.Mem.tail)) (by rfl) ?_ | (refine sh_box (by assumption) rfl rfl rfl rfl rfl rfl ?_; intro _ _ _) | (refine sh_alloc tabOk (by assumption) rfl rfl rfl rfl rfl rfl ?_; intro _ _ _) | (refine sh_store tabOk (by assumption) rfl rfl rfl rfl rfl rfl (by repeat (first | exact Upd.here | apply Upd.there)) (by rfl) ?_; intro _ _) | (refine sh_lit tabOk (by assumption) rfl rfl rfl rfl rfl rfl rfl rfl rfl rfl rfl ?_; intro _ _ _) | refine sh_build tabOk rfl rfl rfl rfl rfl rfl ?_)
  refine aw_told followsMixed (DH B W []) [0, 1, 2, 3, 4, 5, 6, 7, 8, 9, 10, 11, 12, 13, 14, 15, 16, 17, 18, 19] (by kernel_rfl) (G10.sub (List.nil_sublist _)) ?_
  repeat (first | refine so_pure tabOk lx rfl rfl rfl rfl (by kernel_rfl) ?_ | refine so_load' tabOk lx rfl rfl rfl rfl (by repeat (first | exact List.Mem.head _ | apply List.Mem.tail)) (by rfl) (by rfl) (by kernel_rfl) ?_ | refine so_loada' tabOk lx rfl rfl rfl rfl (by repeat (first | exact List.Mem.head _ | apply List.Mem.tail)) (by rfl) (by kernel_rfl) ?_ | refine so_len tabOk lx rfl rfl rfl rfl (by kernel_rfl) ?_ | refine so_build' tabOk lx rfl rfl rfl rfl rfl rfl (by kernel_rfl) ?_ | refine so_index1n tabOk lx rfl rfl rfl rfl (by omega) (by kernel_rfl) ?_ | refine so_indexn tabOk lx rfl rfl rfl rfl (by omega) (by kernel_rfl) ?_ | refine so_index1 tabOk lx rfl rfl rfl rfl (by omega) (by omega) (by kernel_rfl) ?_ | refine so_pass lx rfl rfl rfl (by kernel_rfl) ?_ | refine so_arith tabOk lx rfl rfl rfl rfl (by simp only [InR]; omega) (by kernel_rfl) ?_)
  refine so_gives lx rfl rfl rfl (by kernel_rfl) (fun _ _ => gives_cutS tabOk rfl (by omega) (by omega) (by omega)) ?_
  rw [show s.extract (5 : Int).toNat ((ldN s : Nat) : Int).toNat = ldName s from rfl]
  repeat (first | refine so_pure tabOk lx rfl rfl rfl rfl (by kernel_rfl) ?_ | refine so_load' tabOk lx rfl rfl rfl rfl (by repeat (first | exact List.Mem.head _ | apply List.Mem.tail)) (by rfl) (by rfl) (by kernel_rfl) ?_ | refine so_loada' tabOk lx rfl rfl rfl rfl (by repeat (first | exact List.Mem.head _ | apply List.Mem.tail)) (by rfl) (by kernel_rfl) ?_ | refine so_len tabOk lx rfl rfl rfl rfl (by kernel_rfl) ?_ | refine so_build' tabOk lx rfl rfl rfl rfl rfl rfl (by kernel_rfl) ?_ | refine so_index1n tabOk lx rfl rfl rfl rfl (by omega) (by kernel_rfl) ?_ | refine so_indexn tabOk lx rfl rfl rfl rfl (by omega) (by kernel_rfl) ?_ | refine so_index1 tabOk lx rfl rfl rfl rfl (by omega) (by omega) (by kernel_rfl) ?_ | refine so_pass lx rfl rfl rfl (by kernel_rfl) ?_ | refine so_arith tabOk lx rfl rfl rfl rfl (by simp only [InR]; omega) (by kernel_rfl) ?_)
  refine so_gives lx rfl rfl rfl (by kernel_rfl) (fun _ _ => gives_cutS tabOk rfl (by omega) (by omega) (by omega)) ?_
  rw [show s.extract ((ldN s : Nat) : Int).toNat ((ldN s : Int) + 4).toNat = s.extract (ldN s) (ldN s + 4) by congr 1]
  have sz4 : (s.extract (ldN s) (ldN s + 4)).size = 4 := by rw [extract_size (by omega)]; omega
  have hf4 := hiN_4 sz4
  rw [bt_extract (by omega) (by omega), bt_extract (by omega) (by omega), bt_extract (by omega) (by omega), bt_extract (by omega) (by omega), Nat.add_zero] at hf4
  refine so_qcall lx rfl rfl rfl rfl (by kernel_rfl) ent98 (fun _ _ => c_impl_fromLittle (by omega)) ?_
  rw [show hiN (s.extract (ldN s) (ldN s + 4)) (s.extract (ldN s) (ldN s + 4)).size = ldSt s from hf4]
  repeat (first | refine so_pure tabOk lx rfl rfl rfl rfl (by kernel_rfl) ?_ | refine so_load' tabOk lx rfl rfl rfl rfl (by repeat (first | exact List.Mem.head _ | apply List.Mem.tail)) (by rfl) (by rfl) (by kernel_rfl) ?_ | refine so_loada' tabOk lx rfl rfl rfl rfl (by repeat (first | exact List.Mem.head _ | apply List.Mem.tail)) (by rfl) (by kernel_rfl) ?_ | refine so_len tabOk lx rfl rfl rfl rfl (by kernel_rfl) ?_ | refine so_build' tabOk lx rfl rfl rfl rfl rfl rfl (by kernel_rfl) ?_ | refine so_index1n tabOk lx rfl rfl rfl rfl (by omega) (by kernel_rfl) ?_ | refine so_indexn tabOk lx rfl rfl rfl rfl (by omega) (by kernel_rfl) ?_ | refine so_index1 tabOk lx rfl rfl rfl rfl (by omega) (by omega) (by kernel_rfl) ?_ | refine so_pass lx rfl rfl rfl (by kernel_rfl) ?_ | refine so_arith tabOk lx rfl rfl rfl rfl (by simp only [InR]; omega) (by kernel_rfl) ?_)
  refine so_gives lx rfl rfl rfl (by kernel_rfl) (fun _ _ => gives_cutS tabOk rfl (by omega) (by omega) (by omega)) ?_
  rw [show s.extract ((ldN s : Int) + 4).toNat ((ldN s : Int) + 6).toNat = s.extract (ldN s + 4) (ldN s + 6) by congr 1]
  have sz6 : (s.extract (ldN s + 4) (ldN s + 6)).size = 2 := by rw [extract_size (by omega)]; omega
  have hf6 := hiN_2 sz6
  rw [bt_extract (by omega) (by omega), bt_extract (by omega) (by omega), Nat.add_zero] at hf6
  refine so_qcall lx rfl rfl rfl rfl (by kernel_rfl) ent98 (fun _ _ => c_impl_fromLittle (by omega)) ?_
  rw [show hiN (s.extract (ldN s + 4) (ldN s + 6)) (s.extract (ldN s + 4) (ldN s + 6)).size = ldSp s from hf6]
  repeat (first | refine so_pure tabOk lx rfl rfl rfl rfl (by kernel_rfl) ?_ | refine so_load' tabOk lx rfl rfl rfl rfl (by repeat (first | exact List.Mem.head _ | apply List.Mem.tail)) (by rfl) (by rfl) (by kernel_rfl) ?_ | refine so_loada' tabOk lx rfl rfl rfl rfl (by repeat (first | exact List.Mem.head _ | apply List.Mem.tail)) (by rfl) (by kernel_rfl) ?_ | refine so_len tabOk lx rfl rfl rfl rfl (by kernel_rfl) ?_ | refine so_build' tabOk lx rfl rfl rfl rfl rfl rfl (by kernel_rfl) ?_ | refine so_index1n tabOk lx rfl rfl rfl rfl (by omega) (by kernel_rfl) ?_ | refine so_indexn tabOk lx rfl rfl rfl rfl (by omega) (by kernel_rfl) ?_ | refine so_index1 tabOk lx rfl rfl rfl rfl (by omega) (by omega) (by kernel_rfl) ?_ | refine so_pass lx rfl rfl rfl (by kernel_rfl) ?_ | refine so_arith tabOk lx rfl rfl rfl rfl (by simp only [InR]; omega) (by kernel_rfl) ?_)
  refine so_single (by kernel_rfl) (th_alloc tabOk G10 [19] (by kernel_rfl) rfl rfl rfl rfl rfl rfl (fun _ => (by repeat (first | exact List.nil_sublist _ | refine List.Sublist.cons_cons _ ?_ | refine List.Sublist.cons _ ?_))) ?_)
  intro b11 W11 G11
  refine so_single (by kernel_rfl) (th_store tabOk G11 (by simp [cv, Cn.c1, cl]) [] (by kernel_rfl) rfl rfl rfl rfl rfl rfl (by repeat (first | exact Upd.here | apply Upd.there)) (by rfl) (by repeat (first | exact List.nil_sublist _ | refine List.Sublist.cons_cons _ ?_ | refine List.Sublist.cons _ ?_)) ?_)
  intro W12 G12
  refine so_done ?_
  repeat' (first | refine s_pure tabOk rfl rfl rfl rfl ?_ | refine Stp.imp ?_ | refine aops_nil ?_ | refine aw_reg ?_ | refine aw_seq ?_ | refine s_pass rfl rfl rfl ?_ | refine s_len tabOk rfl rfl rfl rfl ?_ | refine aw_true rfl ?_ | refine aw_false rfl ?_ | refine blk_exit_other rfl ?_ | refine s_arith tabOk rfl rfl rfl rfl (by simp only [InR]; omega) ?_ | ((first | ((fail_if_success refine s_told rfl rfl ?_); refine s_part rfl rfl rfl ?_ ?_) | refine aw_if rfl ?_ ?_) <;> intro hc <;> (first | replace hc := DecT.imp hc | simp only [decs] at hc | skip)) | refine s_index1n tabOk rfl rfl rfl rfl (by omega) ?_ | refine s_indexn tabOk rfl rfl rfl rfl (by omega) ?_ | refine s_index1 tabOk rfl rfl rfl rfl (by omega) (by omega) ?_ | refine sh_load tabOk (by assumption) rfl rfl rfl rfl (by repeat (first | exact List.Mem.head _ | apply List.Mem.tail)) (by rfl) (by rfl) ?_ | refine sh_loada tabOk (by assumption) rfl rfl rfl rfl (by repeat (first | exact List.Mem.head _ | apply List.Mem.tail)) (by rfl) ?_ | (refine sh_box (by assumption) rfl rfl rfl rfl rfl rfl ?_; intro _ _ _) | (refine sh_alloc tabOk (by assumption) rfl rfl rfl rfl rfl rfl ?_; intro _ _ _) | (refine sh_store tabOk (by assumption) rfl rfl rfl rfl rfl rfl (by repeat (first | exact Upd.here | apply Upd.there)) (by rfl) ?_; intro _ _) | (refine sh_lit tabOk (by assumption) rfl rfl rfl rfl rfl rfl rfl rfl rfl rfl rfl ?_; intro _ _ _) | refine sh_build tabOk rfl rfl rfl rfl rfl rfl ?_)
  have mem12 : Res.blk b11 [.string (ldName s), .int .i64 (ldSt s : Nat), .int .i64 (ldSp s : Nat), .slice a10 vs.length c10] 44 ∈ [Res.blk b11 [.string (ldName s), .int .i64 (ldSt s : Nat), .int .i64 (ldSp s : Nat), .slice a10 vs.length c10] 44] := List.mem_cons_self ..
  refine aw_told followsMixed (DH B W [.blk b11 [.string (ldName s), .int .i64 (ldSt s : Nat), .int .i64 (ldSp s : Nat), .slice a10 vs.length c10] 44]) [0, 1, 2, 3, 4, 5, 6, 7, 8, 10, 11, 12, 9, 13, 14] (by kernel_rfl) (G12.sub (by repeat (first | exact List.nil_sublist _ | refine List.Sublist.cons_cons _ ?_ | refine List.Sublist.cons _ ?_))) ?_
  cases ok
  · iterate 15 (first | refine so_pure tabOk lx rfl rfl rfl rfl (by kernel_rfl) ?_ | refine so_pass lx rfl rfl rfl (by kernel_rfl) ?_)
    refine so_done ?_
    repeat' (first | refine s_pure tabOk rfl rfl rfl rfl ?_ | refine Stp.imp ?_ | refine aops_nil ?_ | refine aw_reg ?_ | refine aw_seq ?_ | refine s_pass rfl rfl rfl ?_ | refine s_len tabOk rfl rfl rfl rfl ?_ | refine aw_true rfl ?_ | refine aw_false rfl ?_ | refine blk_exit_other rfl ?_ | refine s_arith tabOk rfl rfl rfl rfl (by simp only [InR]; omega) ?_ | ((first | ((fail_if_success refine s_told rfl rfl ?_); refine s_part rfl rfl rfl ?_ ?_) | refine aw_if rfl ?_ ?_) <;> intro hc <;> (first | replace hc := DecT.imp hc | simp only [decs] at hc | skip)) | refine s_index1n tabOk rfl rfl rfl rfl (by omega) ?_ | refine s_indexn tabOk rfl rfl rfl rfl (by omega) ?_ | refine s_index1 tabOk rfl rfl rfl rfl (by omega) (by omega) ?_ | refine sh_load tabOk (by assumption) rfl rfl rfl rfl (by repeat (first | exact List.Mem.head _ | apply List.Mem.tail)) (by rfl) (by rfl) ?_ | refine sh_loada tabOk (by assumption) rfl rfl rfl rfl (by repeat (first | exact List.Mem.head _ | apply List.Mem.tail)) (by rfl) ?_ | (refine sh_box (by assumption) rfl rfl rfl rfl rfl rfl ?_; intro _ _ _) | (refine sh_alloc tabOk (by assumption) rfl rfl rfl rfl rfl rfl ?_; intro _ _ _) | (refine sh_store tabOk (by assumption) rfl rfl rfl rfl rfl rfl (by repeat (first | exact Upd.here | apply Upd.there)) (by rfl) ?_; intro _ _) | (refine sh_lit tabOk (by assumption) rfl rfl rfl rfl rfl rfl rfl rfl rfl rfl rfl ?_; intro _ _ _) | refine sh_build tabOk rfl rfl rfl rfl rfl rfl ?_)
    refine retK_ret tabOk (congrArg Array.toList Try.results60) (by repeat (first | exact rv_nil | apply rv_tmp rfl rfl | apply rv_cellH (by assumption) rfl rfl rfl (by repeat (first | exact List.Mem.head _ | apply List.Mem.tail)) rfl)) ?_
    exact LfH.bad (by rw [hok, hld]; rfl) (Hp.sub (by assumption) (by repeat (first | exact List.nil_sublist _ | refine List.Sublist.cons_cons _ ?_ | refine List.Sublist.cons _ ?_)))
  · iterate 3 refine so_pure tabOk lx rfl rfl rfl rfl (by kernel_rfl) ?_
    refine so_loada' tabOk lx rfl rfl rfl rfl mem12 rfl (by kernel_rfl) ?_
    refine so_single (by kernel_rfl) (th_call [5, 6, 7, 8, 10, 11, 12, 9, 13, 14] (by kernel_rfl) rfl rfl rfl rfl ent25 (c_impl_ValidRecord (Hp.recA (s := ldName s) (st := (ldSt s : Nat)) (sp := (ldSp s : Nat)) (a := a10) (c := c10) G12 (by repeat (first | exact List.Mem.head _ | apply List.Mem.tail))) hns) ?_)
    rintro _ W13 ⟨rfl, g13⟩
    have G13 := Hp.grow G12 g13
    refine ⟨G13.sub (by repeat (first | exact List.nil_sublist _ | refine List.Sublist.cons_cons _ ?_ | refine List.Sublist.cons _ ?_)), ?_⟩
    cases hk : recOk (ldName s) (ldSt s) (ldSp s) vs.length
    · iterate 10 (first | refine so_pure tabOk lx rfl rfl rfl rfl (by kernel_rfl) ?_ | refine so_pass lx rfl rfl rfl (by kernel_rfl) ?_)
      refine so_done ?_
      repeat' (first | refine s_pure tabOk rfl rfl rfl rfl ?_ | refine Stp.imp ?_ | refine aops_nil ?_ | refine aw_reg ?_ | refine aw_seq ?_ | refine s_pass rfl rfl rfl ?_ | refine s_len tabOk rfl rfl rfl rfl ?_ | refine aw_true rfl ?_ | refine aw_false rfl ?_ | refine blk_exit_other rfl ?_ | refine s_arith tabOk rfl rfl rfl rfl (by simp only [InR]; omega) ?_ | ((first | ((fail_if_success refine s_told rfl rfl ?_); refine s_part rfl rfl rfl ?_ ?_) | refine aw_if rfl ?_ ?_) <;> intro hc <;> (first | replace hc := DecT.imp hc | simp only [decs] at hc | skip)) | refine s_index1n tabOk rfl rfl rfl rfl (by omega) ?_ | refine s_indexn tabOk rfl rfl rfl rfl (by omega) ?_ | refine s_index1 tabOk rfl rfl rfl rfl (by omega) (by omega) ?_ | refine sh_load tabOk (by assumption) rfl rfl rfl rfl (by repeat (first | exact List.Mem.head _ | apply List.Mem.tail)) (by rfl) (by rfl) ?_ | refine sh_loada tabOk (by assumption) rfl rfl rfl rfl (by repeat (first | exact List.Mem.head _ | apply List.Mem.tail)) (by rfl) ?_ | (refine sh_box (by assumption) rfl rfl rfl rfl rfl rfl ?_; intro _ _ _) | (refine sh_alloc tabOk (by assumption) rfl rfl rfl rfl rfl rfl ?_; intro _ _ _) | (refine sh_store tabOk (by assumption) rfl rfl rfl rfl rfl rfl (by repeat (first | exact Upd.here | apply Upd.there)) (by rfl) ?_; intro _ _) | (refine sh_lit tabOk (by assumption) rfl rfl rfl rfl rfl rfl rfl rfl rfl rfl rfl ?_; intro _ _ _) | refine sh_build tabOk rfl rfl rfl rfl rfl rfl ?_)
      refine retK_ret tabOk (congrArg Array.toList Try.results60) (by repeat (first | exact rv_nil | apply rv_tmp rfl rfl | apply rv_cellH (by assumption) rfl rfl rfl (by repeat (first | exact List.Mem.head _ | apply List.Mem.tail)) rfl)) ?_
      exact LfH.bad (by rw [hok, hld, hk]; rfl) (Hp.sub (by assumption) (by repeat (first | exact List.nil_sublist _ | refine List.Sublist.cons_cons _ ?_ | refine List.Sublist.cons _ ?_)))
    · have hrg := recOk_range hk
      have hnm := recOk_name hk
      iterate 3 refine so_pure tabOk lx rfl rfl rfl rfl (by kernel_rfl) ?_
      refine so_loada' tabOk lx rfl rfl rfl rfl mem12 rfl (by kernel_rfl) ?_
      iterate 2 refine so_pure tabOk lx rfl rfl rfl rfl (by kernel_rfl) ?_
      refine so_gives lx rfl rfl rfl (by kernel_rfl) (fun _ _ => gives_cutS tabOk rfl (by omega) (by omega) (by omega)) ?_
      rw [show s.extract (0 : Int).toNat ((lonZ s : Nat) : Int).toNat = s.extract 0 (lonZ s) from rfl]
      refine so_single (by kernel_rfl) (th_call [13, 14] (by kernel_rfl) rfl rfl rfl rfl ent59 (c_impl_storeRecord (Hp.recA (s := ldName s) (st := (ldSt s : Nat)) (sp := (ldSp s : Nat)) (a := a10) (c := c10) G13 (by repeat (first | exact List.Mem.head _ | apply List.Mem.tail))) hnm (by omega) hcd (by omega) (by omega) (Hp.size G13)) ?_)
      rintro _ W14 ⟨rfl, g14⟩
      have G14 := Hp.grow G13 g14
      refine ⟨G14.sub (by repeat (first | exact List.nil_sublist _ | refine List.Sublist.cons_cons _ ?_ | refine List.Sublist.cons _ ?_)), ?_⟩
      iterate 2 refine so_pure tabOk lx rfl rfl rfl rfl (by kernel_rfl) ?_
      refine so_done ?_
      clear G2 G10 G11 G12 G13
      repeat' (first | refine s_pure tabOk rfl rfl rfl rfl ?_ | refine Stp.imp ?_ | refine aops_nil ?_ | refine aw_reg ?_ | refine aw_seq ?_ | refine s_pass rfl rfl rfl ?_ | refine s_len tabOk rfl rfl rfl rfl ?_ | refine aw_true rfl ?_ | refine aw_false rfl ?_ | refine blk_exit_other rfl ?_ | refine s_arith tabOk rfl rfl rfl rfl (by simp only [InR]; omega) ?_ | ((first | ((fail_if_success refine s_told rfl rfl ?_); refine s_part rfl rfl rfl ?_ ?_) | refine aw_if rfl ?_ ?_) <;> intro hc <;> (first | replace hc := DecT.imp hc | simp only [decs] at hc | skip)) | refine s_index1n tabOk rfl rfl rfl rfl (by omega) ?_ | refine s_indexn tabOk rfl rfl rfl rfl (by omega) ?_ | refine s_index1 tabOk rfl rfl rfl rfl (by omega) (by omega) ?_ | refine sh_load tabOk (by assumption) rfl rfl rfl rfl (by repeat (first | exact List.Mem.head _ | apply List.Mem.tail)) (by rfl) (by rfl) ?_ | refine sh_loada tabOk (by assumption) rfl rfl rfl rfl (by repeat (first | exact List.Mem.head _ | apply List.Mem.tail)) (by rfl) ?_ | (refine sh_box (by assumption) rfl rfl rfl rfl rfl rfl ?_; intro _ _ _) | (refine sh_alloc tabOk (by assumption) rfl rfl rfl rfl rfl rfl ?_; intro _ _ _) | (refine sh_store tabOk (by assumption) rfl rfl rfl rfl rfl rfl (by repeat (first | exact Upd.here | apply Upd.there)) (by rfl) ?_; intro _ _) | (refine sh_lit tabOk (by assumption) rfl rfl rfl rfl rfl rfl rfl rfl rfl rfl rfl ?_; intro _ _ _) | refine sh_build tabOk rfl rfl rfl rfl rfl rfl ?_)
      · refine retK_ret tabOk (congrArg Array.toList Try.results60) (by repeat (first | exact rv_nil | apply rv_tmp rfl rfl | apply rv_cellH (by assumption) rfl rfl rfl (by repeat (first | exact List.Mem.head _ | apply List.Mem.tail)) rfl)) ?_
        exact LfH.bad (by rw [hok, hld, hk]; simp; exact fun h => hc (bs_eq.2 h)) (Hp.sub (by assumption) (by repeat (first | exact List.nil_sublist _ | refine List.Sublist.cons_cons _ ?_ | refine List.Sublist.cons _ ?_)))
      · refine retK_ret tabOk (congrArg Array.toList Try.results60) (by repeat (first | exact rv_nil | apply rv_tmp rfl rfl | apply rv_cellH (by assumption) rfl rfl rfl (by repeat (first | exact List.Mem.head _ | apply List.Mem.tail)) rfl)) ?_
        have hkk : fstOk s = true := by rw [hok, hld, hk]; simp; exact bs_eq.1 hc
        unfold LfH
        rw [hldr hkk, hkk]
        exact ⟨a10, c10, rfl, Hp.picks (by assumption) (by repeat (first | exact Picks.nil | (apply Picks.cons; (repeat (first | exact Pick.here | apply Pick.there)))))⟩
theorem lod_fst (s : ByteArray) : lodOk s = (fstOk s && decide ((fstR s).2 = s.size)) ∧ (lodOk s = true → lodR s = (fstR s).1) := by
  by_cases h0 : lonN s = 0
  · have e1 : lodOk s = false := by unfold lodOk; rw [h0]; rfl
    have e2 : fstOk s = false := by unfold fstOk; rw [h0]; rfl
    rw [e1, e2]
    exact ⟨rfl, fun h => by cases h⟩
  · obtain ⟨hz, -⟩ := lonN_ne h0
    have e2 : fstOk s = ldOk s := by unfold fstOk; rw [decide_eq_true h0]; rfl
    have e1 : lodOk s = (decide (lonN s = s.size) && ldOk s) := by unfold lodOk; rw [decide_eq_true h0]; rfl
    cases hl : ldOk s with
    | false => rw [e1, e2, hl]; simp
    | true =>
      have e3 : fstR s = ((ldName s, ((ldSt s : Nat) : Int), ((ldSp s : Nat) : Int), uVal 28 (ldBody s)), lonZ s) := by unfold fstR; rw [e2, hl]; rfl
      rw [e1, e2, hl, e3, hz]
      refine ⟨by simp, fun h => ?_⟩
      unfold lodR
      rw [e1, hl, hz, h]
      rfl
set_option maxHeartbeats 4000000 in
theorem hc_impl_LoadRecord {s : ByteArray} (hs : s.size ≤ 1048576) (hB : B ≤ W.heap.size) : ACalls Try.prog B 22 [.string s] W (fun r W' => LdH B W W' r s) := by
  have H0 : Hp B W W [] := Hp.new hB
  refine acalls_of Try.func22 rfl Try.ntmps22 (Nat.le_of_ble_eq_true rfl) ?_
  repeat' (first | refine s_pure tabOk rfl rfl rfl rfl ?_ | refine Stp.imp ?_ | refine aops_nil ?_ | refine aw_reg ?_ | refine aw_seq ?_ | refine s_pass rfl rfl rfl ?_ | refine s_len tabOk rfl rfl rfl rfl ?_ | refine aw_true rfl ?_ | refine aw_false rfl ?_ | refine blk_exit_other rfl ?_ | refine s_arith tabOk rfl rfl rfl rfl (by simp only [InR]; omega) ?_ | ((first | ((fail_if_success refine s_told rfl rfl ?_); refine s_part rfl rfl rfl ?_ ?_) | refine aw_if rfl ?_ ?_) <;> intro hc <;> (first | replace hc := DecT.imp hc | simp only [decs] at hc | skip)) | refine s_index1n tabOk rfl rfl rfl rfl (by omega) ?_ | refine s_indexn tabOk rfl rfl rfl rfl (by omega) ?_ | refine s_index1 tabOk rfl rfl rfl rfl (by omega) (by omega) ?_ | refine sh_load tabOk (by assumption) rfl rfl rfl rfl (by repeat (first | exact List.Mem.head _ | apply List.Mem.tail)) (by rfl) (by rfl) ?_ | refine sh_loada tabOk (by assumption) rfl rfl rfl rfl (by repeat (first | exact List.Mem.head _ | apply List.Mem.tail)) (by rfl) ?_ | (refine sh_box (by assumption) rfl rfl rfl rfl rfl rfl ?_; intro _ _ _) | (refine sh_alloc tabOk (by assumption) rfl rfl rfl rfl rfl rfl ?_; intro _ _ _) | (refine sh_store tabOk (by assumption) rfl rfl rfl rfl rfl rfl (by repeat (first | exact Upd.here | apply Upd.there)) (by rfl) ?_; intro _ _) | (refine sh_lit tabOk (by assumption) rfl rfl rfl rfl rfl rfl rfl rfl rfl rfl rfl ?_; intro _ _ _) | refine sh_build tabOk rfl rfl rfl rfl rfl rfl ?_)
  refine s_call rfl rfl rfl rfl ent60 (hc_impl_loadFirst hs (Hp.size (by assumption))) ?_
  rintro _ W2 ⟨a, c, rfl, g2⟩
  have G2 := Hp.call1 (by assumption) g2
  obtain ⟨h1, h2⟩ := lod_fst s
  clear g2
  generalize fstR s = q at *
  obtain ⟨⟨q1, q2, q3, zs⟩, z⟩ := q
  dsimp only at h1 h2 G2 ⊢
  generalize fstOk s = ok at *
  cases ok
  · repeat' (first | refine s_pure tabOk rfl rfl rfl rfl ?_ | refine Stp.imp ?_ | refine aops_nil ?_ | refine aw_reg ?_ | refine aw_seq ?_ | refine s_pass rfl rfl rfl ?_ | refine s_len tabOk rfl rfl rfl rfl ?_ | refine aw_true rfl ?_ | refine aw_false rfl ?_ | refine blk_exit_other rfl ?_ | refine s_arith tabOk rfl rfl rfl rfl (by simp only [InR]; omega) ?_ | ((first | ((fail_if_success refine s_told rfl rfl ?_); refine s_part rfl rfl rfl ?_ ?_) | refine aw_if rfl ?_ ?_) <;> intro hc <;> (first | replace hc := DecT.imp hc | simp only [decs] at hc | skip)) | refine s_index1n tabOk rfl rfl rfl rfl (by omega) ?_ | refine s_indexn tabOk rfl rfl rfl rfl (by omega) ?_ | refine s_index1 tabOk rfl rfl rfl rfl (by omega) (by omega) ?_ | refine sh_load tabOk (by assumption) rfl rfl rfl rfl (by repeat (first | exact List.Mem.head _ | apply List.Mem.tail)) (by rfl) (by rfl) ?_ | refine sh_loada tabOk (by assumption) rfl rfl rfl rfl (by repeat (first | exact List.Mem.head _ | apply List.Mem.tail)) (by rfl) ?_ | (refine sh_box (by assumption) rfl rfl rfl rfl rfl rfl ?_; intro _ _ _) | (refine sh_alloc tabOk (by assumption) rfl rfl rfl rfl rfl rfl ?_; intro _ _ _) | (refine sh_store tabOk (by assumption) rfl rfl rfl rfl rfl rfl (by repeat (first | exact Upd.here | apply Upd.there)) (by rfl) ?_; intro _ _) | (refine sh_lit tabOk (by assumption) rfl rfl rfl rfl rfl rfl rfl rfl rfl rfl rfl ?_; intro _ _ _) | refine sh_build tabOk rfl rfl rfl rfl rfl rfl ?_)
    refine retK_ret tabOk (congrArg Array.toList Try.results22) (by repeat (first | exact rv_nil | apply rv_tmp rfl rfl | apply rv_cellH (by assumption) rfl rfl rfl (by repeat (first | exact List.Mem.head _ | apply List.Mem.tail)) rfl)) ?_
    exact LdH.bad (by rw [h1]; rfl) (Hp.sub (by assumption) (by repeat (first | exact List.nil_sublist _ | refine List.Sublist.cons_cons _ ?_ | refine List.Sublist.cons _ ?_)))
  · repeat' (first | refine s_pure tabOk rfl rfl rfl rfl ?_ | refine Stp.imp ?_ | refine aops_nil ?_ | refine aw_reg ?_ | refine aw_seq ?_ | refine s_pass rfl rfl rfl ?_ | refine s_len tabOk rfl rfl rfl rfl ?_ | refine aw_true rfl ?_ | refine aw_false rfl ?_ | refine blk_exit_other rfl ?_ | refine s_arith tabOk rfl rfl rfl rfl (by simp only [InR]; omega) ?_ | ((first | ((fail_if_success refine s_told rfl rfl ?_); refine s_part rfl rfl rfl ?_ ?_) | refine aw_if rfl ?_ ?_) <;> intro hc <;> (first | replace hc := DecT.imp hc | simp only [decs] at hc | skip)) | refine s_index1n tabOk rfl rfl rfl rfl (by omega) ?_ | refine s_indexn tabOk rfl rfl rfl rfl (by omega) ?_ | refine s_index1 tabOk rfl rfl rfl rfl (by omega) (by omega) ?_ | refine sh_load tabOk (by assumption) rfl rfl rfl rfl (by repeat (first | exact List.Mem.head _ | apply List.Mem.tail)) (by rfl) (by rfl) ?_ | refine sh_loada tabOk (by assumption) rfl rfl rfl rfl (by repeat (first | exact List.Mem.head _ | apply List.Mem.tail)) (by rfl) ?_ | (refine sh_box (by assumption) rfl rfl rfl rfl rfl rfl ?_; intro _ _ _) | (refine sh_alloc tabOk (by assumption) rfl rfl rfl rfl rfl rfl ?_; intro _ _ _) | (refine sh_store tabOk (by assumption) rfl rfl rfl rfl rfl rfl (by repeat (first | exact Upd.here | apply Upd.there)) (by rfl) ?_; intro _ _) | (refine sh_lit tabOk (by assumption) rfl rfl rfl rfl rfl rfl rfl rfl rfl rfl rfl ?_; intro _ _ _) | refine sh_build tabOk rfl rfl rfl rfl rfl rfl ?_)
    · refine retK_ret tabOk (congrArg Array.toList Try.results22) (by repeat (first | exact rv_nil | apply rv_tmp rfl rfl | apply rv_cellH (by assumption) rfl rfl rfl (by repeat (first | exact List.Mem.head _ | apply List.Mem.tail)) rfl)) ?_
      exact LdH.bad (by rw [h1, decide_eq_false (by omega)]; rfl) (Hp.sub (by assumption) (by repeat (first | exact List.nil_sublist _ | refine List.Sublist.cons_cons _ ?_ | refine List.Sublist.cons _ ?_)))
    · refine retK_ret tabOk (congrArg Array.toList Try.results22) (by repeat (first | exact rv_nil | apply rv_tmp rfl rfl | apply rv_cellH (by assumption) rfl rfl rfl (by repeat (first | exact List.Mem.head _ | apply List.Mem.tail)) rfl)) ?_
      have hk : lodOk s = true := by rw [h1, decide_eq_true (by omega)]; rfl
      unfold LdH
      rw [h2 hk, hk]
      exact ⟨a, c, rfl, Hp.picks (by assumption) (by repeat (first | exact Picks.nil | (apply Picks.cons; (repeat (first | exact Pick.here | apply Pick.there)))))⟩
end
end Go.Proofs.Ytmplincflbhmiaa
namespace Go.Proofs.Ytmplincflbhmiaa
set_option linter.unusedSimpArgs false
set_option linter.unusedVariables false
open Go Cn Go.RowKit
def fstC (t : ByteArray) : Rcd := ⟨(fstR t).1.1, (fstR t).1.2.1, (fstR t).1.2.2.1, (fstR t).1.2.2.2⟩
def rvG : Nat → ByteArray → Nat → List Rcd × Nat
  | 0, _, p => ([], p)
  | f + 1, s, p => if fstOk (s.extract p s.size) then (fstC (s.extract p s.size) :: (rvG f s (p + (fstR (s.extract p s.size)).2)).1, (rvG f s (p + (fstR (s.extract p s.size)).2)).2) else ([], p)
theorem rvG_no {f : Nat} {s : ByteArray} {p : Nat} (h : fstOk (s.extract p s.size) = false) : rvG f s p = ([], p) := by
  cases f with
  | zero => rfl
  | succ f => unfold rvG; rw [h]; rfl
theorem rvG_yes {f : Nat} {s : ByteArray} {p : Nat} (h : fstOk (s.extract p s.size) = true) : rvG (f + 1) s p = (fstC (s.extract p s.size) :: (rvG f s (p + (fstR (s.extract p s.size)).2)).1, (rvG f s (p + (fstR (s.extract p s.size)).2)).2) := by
  rw [rvG, h]; rfl
theorem rvG_len : ∀ (f : Nat) (s : ByteArray) (p : Nat), (rvG f s p).1.length ≤ f
  | 0, _, _ => by simp [rvG]
  | f + 1, s, p => by
    unfold rvG
    split
    · simpa using rvG_len f s _
    · simp
theorem fstR_yes {t : ByteArray} (h : fstOk t = true) : fstR t = ((ldName t, ((ldSt t : Nat) : Int), ((ldSp t : Nat) : Int), uVal 28 (ldBody t)), lonZ t) := by unfold fstR; rw [h]; rfl
theorem fst_ne {t : ByteArray} (h : fstOk t = true) : lonN t ≠ 0 ∧ ldOk t = true := by
  unfold fstOk at h
  simpa using h
theorem fst_size {t : ByteArray} (h : fstOk t = true) : (fstR t).2 ≤ t.size := by
  obtain ⟨hz, h2⟩ := lonN_ne (fst_ne h).1
  rw [fstR_yes h]
  dsimp only
  omega
theorem recOk_small {s : ByteArray} {st sp : Int} {n : Nat} (h : recOk s st sp n = true) : s.size ≤ 8 ∧ n ≤ 128 := by
  unfold recOk nameOk at h
  simp at h
  omega
theorem fst_small {t : ByteArray} (h : fstOk t = true) : (fstC t).s.size ≤ 8 ∧ (fstC t).xs.length ≤ 128 := by
  obtain ⟨-, h2⟩ := fst_ne h
  unfold fstC
  rw [fstR_yes h]
  dsimp only
  unfold ldOk at h2
  simp only [Bool.and_eq_true] at h2
  have h3 := h2.2.1
  obtain ⟨h4, h5⟩ := recOk_small h3
  exact ⟨h4, h5⟩
theorem rvG_small : ∀ (f : Nat) (s : ByteArray) (p : Nat), ∀ r ∈ (rvG f s p).1, rcN r ≤ 136
  | 0, _, _ => by simp [rvG]
  | f + 1, s, p => by
    cases h : fstOk (s.extract p s.size) with
    | false => rw [rvG_no h]; simp
    | true =>
      rw [rvG_yes h]
      intro r hr
      rcases List.mem_cons.1 hr with rfl | hr
      · have := fst_small h; unfold rcN; omega
      · exact rvG_small f s _ r hr
@[irreducible] def rvL (s : ByteArray) : List Rcd := (rvG 8 s 0).1
@[irreducible] def rvA (s : ByteArray) : Nat := (rvG 8 s 0).2
theorem rvL_len (s : ByteArray) : (rvL s).length ≤ 8 := by unfold rvL; exact rvG_len _ _ _
theorem rvL_tot {s : ByteArray} {ys : List RcY} (h : ys.map (·.2) = rvL s) : ys.length ≤ 8 ∧ totC ys ≤ 1088 := by
  have hl : ys.length ≤ 8 := by have h1 := congrArg List.length h; have := rvL_len s; simp at h1; omega
  have hall : ∀ y ∈ ys, rcN y.2 ≤ 136 := by
    intro y hy
    have hm : y.2 ∈ rvL s := by rw [← h]; exact List.mem_map.2 ⟨y, hy, rfl⟩
    unfold rvL at hm
    exact rvG_small _ _ _ _ hm
  have hsum : ∀ l : List RcY, (∀ y ∈ l, rcN y.2 ≤ 136) → totC l ≤ 136 * l.length := by
    intro l
    induction l with
    | nil => intro _; simp [totC]
    | cons y l ih =>
      intro h
      have h1 := h y (List.Mem.head _)
      have h2 := ih fun z hz => h z (List.Mem.tail _ hz)
      unfold totC at h2 ⊢
      simp only [List.map_cons, List.sum_cons, List.length_cons]
      omega
  have := hsum ys hall
  exact ⟨hl, by omega⟩
/-! ### the reference's cut -/
theorem extr_extr {s : ByteArray} {i j k : Nat} (h : j ≤ s.size) (hk : i + k ≤ j) : (s.extract i j).extract 0 k = s.extract i (i + k) := by
  rw [ByteArray.extract_extract, Nat.add_zero, Nat.min_eq_left (by omega)]
def RvI (s : ByteArray) (zs : List RcY) (n : Nat) : Prop := zs.length ≤ 8 ∧ n ≤ s.size ∧ rvG 8 s 0 = (zs.map (·.2) ++ (rvG (8 - zs.length) s n).1, (rvG (8 - zs.length) s n).2)
theorem RvI.zero (s : ByteArray) : RvI s [] 0 := ⟨by simp, Nat.zero_le _, rfl⟩
theorem RvI.step {s : ByteArray} {zs : List RcY} {n : Nat} {y : RcY} (h : RvI s zs n) (hl : zs.length < 8) (hk : fstOk (s.extract n s.size) = true) (hy : y.2 = fstC (s.extract n s.size)) : RvI s (zs ++ [y]) (n + (fstR (s.extract n s.size)).2) := by
  obtain ⟨h1, h2, h3⟩ := h
  have hsz := fst_size hk
  rw [extract_size (Nat.le_refl _)] at hsz
  refine ⟨by simp; omega, by omega, ?_⟩
  rw [h3, show 8 - zs.length = (8 - (zs ++ [y]).length) + 1 by simp; omega, rvG_yes hk]
  simp [hy]
theorem RvI.stop {s : ByteArray} {zs : List RcY} {n : Nat} (h : RvI s zs n) (hk : zs.length = 8 ∨ fstOk (s.extract n s.size) = false) : zs.map (·.2) = rvL s ∧ rvA s = n := by
  obtain ⟨h1, h2, h3⟩ := h
  have e : rvG (8 - zs.length) s n = ([], n) := by
    rcases hk with h | h
    · rw [h]; rfl
    · exact rvG_no h
  rw [e] at h3
  unfold rvL rvA
  rw [h3]
  simp
section
variable {B : Nat} {A W W' : World} {L : List Res}
def RvH (B : Nat) (W W' : World) (v : Value) (s : ByteArray) : Prop :=
  ∃ p k ys, v = .tuple #[.slice p (rvL s).length k, .int .i64 (rvA s), .bool true] ∧ ys.map (·.2) = rvL s ∧ Hp B W W' [rcM (.slice p (rvL s).length k) ys]
theorem RvH.good {s : ByteArray} {zs : List RcY} {n : Nat} {p : Option Addr} {k : Nat} (h : RvI s zs n) (hk : zs.length = 8 ∨ fstOk (s.extract n s.size) = false) (hb : Hp B W W' [.row 44 4 (.slice p zs.length k) zs.length (zs.flatMap rcF), rcI zs]) : RvH B W W' (.tuple #[.slice p zs.length k, .int .i64 (n : Nat), .bool true]) s := by
  obtain ⟨h1, h2⟩ := h.stop hk
  have hl : (rvL s).length = zs.length := by rw [← h1]; simp
  unfold RvH
  rw [hl, h2]
  exact ⟨p, k, zs, rfl, h1, Hp.packG hb⟩
structure RvX where
  p : Option Addr
  c : Nat
  zs : List RcY
  n : Nat
set_option maxHeartbeats 4000000 in
theorem hc_impl_RecoverRecords {s : ByteArray} (hs : s.size ≤ 1048576) (hB : B ≤ W.heap.size) : ACalls Try.prog B 32 [.string s] W (fun u W' => RvH B W W' u s) := by
  have H0 : Hp B W W [] := Hp.new hB
  refine acalls_of Try.func32 rfl Try.ntmps32 (Nat.le_of_ble_eq_true rfl) ?_
  repeat' (first | refine s_pure tabOk rfl rfl rfl rfl ?_ | refine Stp.imp ?_ | refine aops_nil ?_ | refine aw_reg ?_ | refine aw_seq ?_ | refine s_pass rfl rfl rfl ?_ | refine s_len tabOk rfl rfl rfl rfl ?_ | refine aw_true rfl ?_ | refine aw_false rfl ?_ | refine blk_exit_other rfl ?_ | refine s_arith tabOk rfl rfl rfl rfl (by simp only [InR]; omega) ?_ | ((first | ((fail_if_success refine s_told rfl rfl ?_); refine s_part rfl rfl rfl ?_ ?_) | refine aw_if rfl ?_ ?_) <;> intro hc <;> (first | replace hc := DecT.imp hc | simp only [decs] at hc | skip)) | refine s_index1n tabOk rfl rfl rfl rfl (by omega) ?_ | refine s_indexn tabOk rfl rfl rfl rfl (by omega) ?_ | refine s_index1 tabOk rfl rfl rfl rfl (by omega) (by omega) ?_ | refine sh_load tabOk (by assumption) rfl rfl rfl rfl (by repeat (first | exact List.Mem.head _ | apply List.Mem.tail)) (by rfl) (by rfl) ?_ | refine sh_loada tabOk (by assumption) rfl rfl rfl rfl (by repeat (first | exact List.Mem.head _ | apply List.Mem.tail)) (by rfl) ?_ | (refine sh_box (by assumption) rfl rfl rfl rfl rfl rfl ?_; intro _ _ _) | (refine sh_alloc tabOk (by assumption) rfl rfl rfl rfl rfl rfl ?_; intro _ _ _) | (refine sh_store tabOk (by assumption) rfl rfl rfl rfl rfl rfl (by repeat (first | exact Upd.here | apply Upd.there)) (by rfl) ?_; intro _ _) | (refine sh_lit tabOk (by assumption) rfl rfl rfl rfl rfl rfl rfl rfl rfl rfl rfl ?_; intro _ _ _) | refine sh_build tabOk rfl rfl rfl rfl rfl rfl ?_)
  rename_i b1 W1 H1
  refine aw_loopH (A := W) (fun x : RvX => [(5, .slice x.p x.zs.length x.c), (6, .int .i64 x.n), (0, .string s), (2, .slice none 0 0), (3, .int .i64 0), (4, .bool false)])
    (fun x => [rcI x.zs, .row 44 4 (.slice x.p x.zs.length x.c) x.zs.length (x.zs.flatMap rcF)]) (fun x => RvI s x.zs x.n) (fun x => 8 - x.zs.length) ⟨some ⟨b1, 0, none⟩, 0, [], 0⟩ (RvI.zero s) (by dsimp only; refine Hp.nilG ?_; exact H1.picks (by repeat (first | exact Picks.nil | (apply Picks.cons; (repeat (first | exact Pick.here | apply Pick.there)))))) (by dsimp only; exact (by repeat (first | exact less_nil | refine less_cons rfl ?_))) ?_
  clear H1
  rintro ⟨p, c, zs, n⟩ W2 hI H2
  dsimp only at hI H2 ⊢
  obtain ⟨hz8, hns, -⟩ := id hI
  by_cases hk : zs.length < 8
  rotate_left
  · repeat' (first | refine s_pure tabOk rfl rfl rfl rfl ?_ | refine Stp.imp ?_ | refine aops_nil ?_ | refine aw_reg ?_ | refine aw_seq ?_ | refine s_pass rfl rfl rfl ?_ | refine s_len tabOk rfl rfl rfl rfl ?_ | refine aw_true rfl ?_ | refine aw_false rfl ?_ | refine blk_exit_other rfl ?_ | refine s_arith tabOk rfl rfl rfl rfl (by simp only [InR]; omega) ?_ | ((first | ((fail_if_success refine s_told rfl rfl ?_); refine s_part rfl rfl rfl ?_ ?_) | refine aw_if rfl ?_ ?_) <;> intro hc <;> (first | replace hc := DecT.imp hc | simp only [decs] at hc | skip)) | refine s_index1n tabOk rfl rfl rfl rfl (by omega) ?_ | refine s_indexn tabOk rfl rfl rfl rfl (by omega) ?_ | refine s_index1 tabOk rfl rfl rfl rfl (by omega) (by omega) ?_ | refine sh_load tabOk (by assumption) rfl rfl rfl rfl (by repeat (first | exact List.Mem.head _ | apply List.Mem.tail)) (by rfl) (by rfl) ?_ | refine sh_loada tabOk (by assumption) rfl rfl rfl rfl (by repeat (first | exact List.Mem.head _ | apply List.Mem.tail)) (by rfl) ?_ | (refine sh_box (by assumption) rfl rfl rfl rfl rfl rfl ?_; intro _ _ _) | (refine sh_alloc tabOk (by assumption) rfl rfl rfl rfl rfl rfl ?_; intro _ _ _) | (refine sh_store tabOk (by assumption) rfl rfl rfl rfl rfl rfl (by repeat (first | exact Upd.here | apply Upd.there)) (by rfl) ?_; intro _ _) | (refine sh_lit tabOk (by assumption) rfl rfl rfl rfl rfl rfl rfl rfl rfl rfl rfl ?_; intro _ _ _) | refine sh_build tabOk rfl rfl rfl rfl rfl rfl ?_)
    all_goals try (exfalso; omega)
    refine retK_ret tabOk (congrArg Array.toList Try.results32) (by repeat (first | exact rv_nil | apply rv_tmp rfl rfl | apply rv_cellH (by assumption) rfl rfl rfl (by repeat (first | exact List.Mem.head _ | apply List.Mem.tail)) rfl)) ?_
    exact RvH.good hI (.inl (by omega)) (H2.picks (by repeat (first | exact Picks.nil | (apply Picks.cons; (repeat (first | exact Pick.here | apply Pick.there))))))
  repeat' (first | refine s_pure tabOk rfl rfl rfl rfl ?_ | refine Stp.imp ?_ | refine aops_nil ?_ | refine aw_reg ?_ | refine aw_seq ?_ | refine s_pass rfl rfl rfl ?_ | refine s_len tabOk rfl rfl rfl rfl ?_ | refine aw_true rfl ?_ | refine aw_false rfl ?_ | refine blk_exit_other rfl ?_ | refine s_arith tabOk rfl rfl rfl rfl (by simp only [InR]; omega) ?_ | ((first | ((fail_if_success refine s_told rfl rfl ?_); refine s_part rfl rfl rfl ?_ ?_) | refine aw_if rfl ?_ ?_) <;> intro hc <;> (first | replace hc := DecT.imp hc | simp only [decs] at hc | skip)) | refine s_index1n tabOk rfl rfl rfl rfl (by omega) ?_ | refine s_indexn tabOk rfl rfl rfl rfl (by omega) ?_ | refine s_index1 tabOk rfl rfl rfl rfl (by omega) (by omega) ?_ | refine sh_load tabOk (by assumption) rfl rfl rfl rfl (by repeat (first | exact List.Mem.head _ | apply List.Mem.tail)) (by rfl) (by rfl) ?_ | refine sh_loada tabOk (by assumption) rfl rfl rfl rfl (by repeat (first | exact List.Mem.head _ | apply List.Mem.tail)) (by rfl) ?_ | (refine sh_box (by assumption) rfl rfl rfl rfl rfl rfl ?_; intro _ _ _) | (refine sh_alloc tabOk (by assumption) rfl rfl rfl rfl rfl rfl ?_; intro _ _ _) | (refine sh_store tabOk (by assumption) rfl rfl rfl rfl rfl rfl (by repeat (first | exact Upd.here | apply Upd.there)) (by rfl) ?_; intro _ _) | (refine sh_lit tabOk (by assumption) rfl rfl rfl rfl rfl rfl rfl rfl rfl rfl rfl ?_; intro _ _ _) | refine sh_build tabOk rfl rfl rfl rfl rfl rfl ?_)
  all_goals try (exfalso; omega)
  refine s_cutS tabOk rfl rfl rfl rfl (by omega) (by omega) (by omega) ?_
  rw [Int.toNat_natCast, Int.toNat_natCast]
  have hts : (s.extract n s.size).size ≤ 1048576 := by rw [extract_size (Nat.le_refl _)]; omega
  have hfs : fstOk (s.extract n s.size) = true → (fstR (s.extract n s.size)).2 ≤ 1048576 := fun h => by have := fst_size h; omega
  refine s_call rfl rfl rfl rfl ent60 (hc_impl_loadFirst hts (Hp.size H2)) ?_
  rintro _ W3 ⟨q, qc, rfl, g3⟩
  have H3 := Hp.call1 H2 g3
  clear g3
  cases hf : fstOk (s.extract n s.size)
  · have hq : fstR (s.extract n s.size) = ((⟨#[]⟩, 0, 0, []), 0) := by unfold fstR; rw [hf]; rfl
    rw [hq] at H3 ⊢
    repeat' (first | refine s_pure tabOk rfl rfl rfl rfl ?_ | refine Stp.imp ?_ | refine aops_nil ?_ | refine aw_reg ?_ | refine aw_seq ?_ | refine s_pass rfl rfl rfl ?_ | refine s_len tabOk rfl rfl rfl rfl ?_ | refine aw_true rfl ?_ | refine aw_false rfl ?_ | refine blk_exit_other rfl ?_ | refine s_arith tabOk rfl rfl rfl rfl (by simp only [InR]; omega) ?_ | ((first | ((fail_if_success refine s_told rfl rfl ?_); refine s_part rfl rfl rfl ?_ ?_) | refine aw_if rfl ?_ ?_) <;> intro hc <;> (first | replace hc := DecT.imp hc | simp only [decs] at hc | skip)) | refine s_index1n tabOk rfl rfl rfl rfl (by omega) ?_ | refine s_indexn tabOk rfl rfl rfl rfl (by omega) ?_ | refine s_index1 tabOk rfl rfl rfl rfl (by omega) (by omega) ?_ | refine sh_load tabOk (by assumption) rfl rfl rfl rfl (by repeat (first | exact List.Mem.head _ | apply List.Mem.tail)) (by rfl) (by rfl) ?_ | refine sh_loada tabOk (by assumption) rfl rfl rfl rfl (by repeat (first | exact List.Mem.head _ | apply List.Mem.tail)) (by rfl) ?_ | (refine sh_box (by assumption) rfl rfl rfl rfl rfl rfl ?_; intro _ _ _) | (refine sh_alloc tabOk (by assumption) rfl rfl rfl rfl rfl rfl ?_; intro _ _ _) | (refine sh_store tabOk (by assumption) rfl rfl rfl rfl rfl rfl (by repeat (first | exact Upd.here | apply Upd.there)) (by rfl) ?_; intro _ _) | (refine sh_lit tabOk (by assumption) rfl rfl rfl rfl rfl rfl rfl rfl rfl rfl rfl ?_; intro _ _ _) | refine sh_build tabOk rfl rfl rfl rfl rfl rfl ?_)
    refine retK_ret tabOk (congrArg Array.toList Try.results32) (by repeat (first | exact rv_nil | apply rv_tmp rfl rfl | apply rv_cellH (by assumption) rfl rfl rfl (by repeat (first | exact List.Mem.head _ | apply List.Mem.tail)) rfl)) ?_
    exact RvH.good hI (.inr hf) (Hp.picks (by assumption) (by repeat (first | exact Picks.nil | (apply Picks.cons; (repeat (first | exact Pick.here | apply Pick.there))))))
  have hI2 := hI.step (y := ((q, qc), fstC (s.extract n s.size))) hk hf rfl
  have hf2 := hfs hf
  clear hfs
  unfold fstC at hI2
  generalize fstR (s.extract n s.size) = z at *
  obtain ⟨⟨z1, z2, z3, z4⟩, zn⟩ := z
  dsimp only at H3 hI2 hf2 ⊢
  repeat' (first | refine s_pure tabOk rfl rfl rfl rfl ?_ | refine Stp.imp ?_ | refine aops_nil ?_ | refine aw_reg ?_ | refine aw_seq ?_ | refine s_pass rfl rfl rfl ?_ | refine s_len tabOk rfl rfl rfl rfl ?_ | refine aw_true rfl ?_ | refine aw_false rfl ?_ | refine blk_exit_other rfl ?_ | refine s_arith tabOk rfl rfl rfl rfl (by simp only [InR]; omega) ?_ | ((first | ((fail_if_success refine s_told rfl rfl ?_); refine s_part rfl rfl rfl ?_ ?_) | refine aw_if rfl ?_ ?_) <;> intro hc <;> (first | replace hc := DecT.imp hc | simp only [decs] at hc | skip)) | refine s_index1n tabOk rfl rfl rfl rfl (by omega) ?_ | refine s_indexn tabOk rfl rfl rfl rfl (by omega) ?_ | refine s_index1 tabOk rfl rfl rfl rfl (by omega) (by omega) ?_ | refine sh_load tabOk (by assumption) rfl rfl rfl rfl (by repeat (first | exact List.Mem.head _ | apply List.Mem.tail)) (by rfl) (by rfl) ?_ | refine sh_loada tabOk (by assumption) rfl rfl rfl rfl (by repeat (first | exact List.Mem.head _ | apply List.Mem.tail)) (by rfl) ?_ | (refine sh_box (by assumption) rfl rfl rfl rfl rfl rfl ?_; intro _ _ _) | (refine sh_alloc tabOk (by assumption) rfl rfl rfl rfl rfl rfl ?_; intro _ _ _) | (refine sh_store tabOk (by assumption) rfl rfl rfl rfl rfl rfl (by repeat (first | exact Upd.here | apply Upd.there)) (by rfl) ?_; intro _ _) | (refine sh_lit tabOk (by assumption) rfl rfl rfl rfl rfl rfl rfl rfl rfl rfl rfl ?_; intro _ _ _) | refine sh_build tabOk rfl rfl rfl rfl rfl rfl ?_)
  refine sh_pushA tabOk rcF ((q, qc), ⟨z1, z2, z3, z4⟩) (ys := zs) (by assumption) rfl rfl rfl rfl rfl rfl rfl rfl rfl (fun _ _ => (by repeat (first | exact Upd.here | apply Upd.there))) (by omega) ?_
  intro a7 c7 W9 H9
  repeat' (first | refine s_pure tabOk rfl rfl rfl rfl ?_ | refine Stp.imp ?_ | refine aops_nil ?_ | refine aw_reg ?_ | refine aw_seq ?_ | refine s_pass rfl rfl rfl ?_ | refine s_len tabOk rfl rfl rfl rfl ?_ | refine aw_true rfl ?_ | refine aw_false rfl ?_ | refine blk_exit_other rfl ?_ | refine s_arith tabOk rfl rfl rfl rfl (by simp only [InR]; omega) ?_ | ((first | ((fail_if_success refine s_told rfl rfl ?_); refine s_part rfl rfl rfl ?_ ?_) | refine aw_if rfl ?_ ?_) <;> intro hc <;> (first | replace hc := DecT.imp hc | simp only [decs] at hc | skip)) | refine s_index1n tabOk rfl rfl rfl rfl (by omega) ?_ | refine s_indexn tabOk rfl rfl rfl rfl (by omega) ?_ | refine s_index1 tabOk rfl rfl rfl rfl (by omega) (by omega) ?_ | refine sh_load tabOk (by assumption) rfl rfl rfl rfl (by repeat (first | exact List.Mem.head _ | apply List.Mem.tail)) (by rfl) (by rfl) ?_ | refine sh_loada tabOk (by assumption) rfl rfl rfl rfl (by repeat (first | exact List.Mem.head _ | apply List.Mem.tail)) (by rfl) ?_ | (refine sh_box (by assumption) rfl rfl rfl rfl rfl rfl ?_; intro _ _ _) | (refine sh_alloc tabOk (by assumption) rfl rfl rfl rfl rfl rfl ?_; intro _ _ _) | (refine sh_store tabOk (by assumption) rfl rfl rfl rfl rfl rfl (by repeat (first | exact Upd.here | apply Upd.there)) (by rfl) ?_; intro _ _) | (refine sh_lit tabOk (by assumption) rfl rfl rfl rfl rfl rfl rfl rfl rfl rfl rfl ?_; intro _ _ _) | refine sh_build tabOk rfl rfl rfl rfl rfl rfl ?_)
  all_goals try (exfalso; omega)
  refine rndh_next ⟨a7, c7, zs ++ [((q, qc), ⟨z1, z2, z3, z4⟩)], n + zn⟩ hI2 (by dsimp only; simp; omega) (by dsimp only; rw [List.length_append, List.length_singleton]; exact (by repeat (first | exact less_nil | refine less_cons rfl ?_))) ?_
  dsimp only
  rw [List.length_append, List.length_singleton]
  refine Hp.pushG ?_
  dsimp only [rcG, List.cons_append, List.nil_append]
  exact H9.picks (by repeat (first | exact Picks.nil | (apply Picks.cons; (repeat (first | exact Pick.here | apply Pick.there)))))
end
end Go.Proofs.Ytmplincflbhmiaa
namespace Go.Proofs.Ytmplincflbhmiaa
set_option linter.unusedSimpArgs false
set_option linter.unusedVariables false
open Go Cn Go.RowKit
theorem bt_data {s : ByteArray} {i : Nat} (h : i < s.size) : ∃ h2 : i < s.data.toList.length, bt s i = (s.data.toList[i]'h2).toNat := by
  have h2 : i < s.data.toList.length := by rw [Array.length_toList]; exact h
  exact ⟨h2, by unfold bt; rw [List.getElem?_eq_getElem h2]; rfl⟩
theorem ba_ext {s t : ByteArray} (hl : s.size = t.size) (h : ∀ i, i < s.size → bt s i = bt t i) : s = t := by
  have e : s.data.toList = t.data.toList := by
    refine List.ext_getElem (by rw [Array.length_toList, Array.length_toList]; exact hl) fun i h1 h2 => ?_
    have hs : i < s.size := by rw [Array.length_toList] at h1; exact h1
    obtain ⟨_, e1⟩ := bt_data hs
    obtain ⟨_, e2⟩ := bt_data (s := t) (i := i) (by omega)
    have := h i hs
    rw [e1, e2] at this
    exact UInt8.toNat_inj.1 this
  cases s; cases t
  congr
  exact Array.toList_inj.1 e
theorem bt_nums {xs : List Int} (h : ∀ x ∈ xs, 0 ≤ x ∧ x < 256) {i : Nat} (hi : i < xs.length) : (bt (strOfNums xs) i : Int) = xs.getD i 0 := by
  have hs : i < (strOfNums xs).size := by rw [strOfNums_size]; exact hi
  have e := bL_get hs
  have hx := h _ (List.getElem_mem hi)
  have e2 : (bL (strOfNums xs))[i]'(by rw [bL_len]; exact hs) = (xs[i]).toNat := by
    have := bL_nums h
    simp only [this, List.getElem_map]
  rw [← e, e2, List.getD_eq_getElem?_getD, List.getElem?_eq_getElem hi, Option.getD_some]
  omega
theorem bI_get {s : ByteArray} {i : Nat} (hi : i < s.size) : (bI s).getD i 0 = (bt s i : Int) := by
  unfold bI
  rw [List.getD_eq_getElem?_getD, List.getElem?_eq_getElem (by rw [List.length_map, bL_len]; exact hi), Option.getD_some, List.getElem_map, bL_get hi]
theorem bI_rng (s : ByteArray) : ∀ x ∈ bI s, 0 ≤ x ∧ x < 256 := by
  intro x hx
  unfold bI bL at hx
  obtain ⟨y, hy, rfl⟩ := List.mem_map.1 hx
  obtain ⟨i, hi, rfl⟩ := List.mem_map.1 hy
  have := bt_lt s i
  omega
theorem gd_part {Z A B C : List Int} (h : Z = A ++ (B ++ C)) {k a : Nat} (ha : a = A.length) (hk : k < B.length) : Z.getD (a + k) 0 = B.getD k 0 := by
  subst h; subst ha
  simp only [List.getD_eq_getElem?_getD]
  rw [List.getElem?_append_right (by omega), List.getElem?_append_left (by omega)]
  congr 2
  omega
/-- what begins another -/
def Beg (a t : ByteArray) : Prop := a.size ≤ t.size ∧ ∀ i, i < a.size → bt t i = bt a i
theorem Beg.refl (a : ByteArray) : Beg a a := ⟨Nat.le_refl _, fun _ _ => rfl⟩
theorem Beg.ext {a t : ByteArray} (h : Beg a t) : t.extract 0 a.size = a := by
  refine ba_ext (by rw [extract_size h.1]; omega) fun i hi => ?_
  rw [extract_size h.1] at hi
  rw [bt_extract h.1 (by omega), Nat.zero_add, h.2 i (by omega)]
theorem Beg.of {a t : ByteArray} (h : a.size ≤ t.size) (e : t.extract 0 a.size = a) : Beg a t := by
  refine ⟨h, fun i hi => ?_⟩
  have := bt_extract (s := t) (i := 0) (j := a.size) (k := i) h (by omega)
  rw [e, Nat.zero_add] at this
  exact this.symm
section
variable {s : ByteArray} {st sp : Int} {xs : List Nat}
/-- a stored record's numbers -/
def allL (s : ByteArray) (st sp : Int) (xs : List Nat) : List Int := (storeL s st sp xs).flatten ++ leL (chk 0 (strOfNums (storeL s st sp xs).flatten) (strOfNums (storeL s st sp xs).flatten).size) 2
theorem storeS_all : storeS s st sp xs = strOfNums (allL s st sp xs) := rfl
theorem allL_form (s : ByteArray) (st sp : Int) (xs : List Nat) : allL s st sp xs = [82, 73, 86, 49, (s.size : Int)] ++ (bI s ++ (leL st 4 ++ (leL sp 2 ++ (leL ((packTo xs xs.length).length : Int) 2 ++ (packTo xs xs.length ++ leL (chk 0 (strOfNums (storeL s st sp xs).flatten) (strOfNums (storeL s st sp xs).flatten).size) 2))))) := by
  unfold allL storeL
  simp
theorem leL_rng (n : Int) : ∀ k, ∀ x ∈ leL n k, 0 ≤ x ∧ x < 256
  | 0 => by rw [leL_zero]; simp
  | k + 1 => by
    rw [leL_succ]
    intro x hx
    rcases List.mem_append.1 hx with h | h
    · exact leL_rng n k x h
    · rw [List.mem_singleton.1 h]; omega
theorem allL_rng (hs : s.size ≤ 255) : ∀ x ∈ allL s st sp xs, 0 ≤ x ∧ x < 256 := by
  intro x hx
  rw [allL_form] at hx
  rcases List.mem_append.1 hx with h | h
  · simp at h; omega
  rcases List.mem_append.1 h with h | h
  · exact bI_rng s x h
  rcases List.mem_append.1 h with h | h
  · exact leL_rng _ _ x h
  rcases List.mem_append.1 h with h | h
  · exact leL_rng _ _ x h
  rcases List.mem_append.1 h with h | h
  · exact leL_rng _ _ x h
  rcases List.mem_append.1 h with h | h
  · exact packTo_rng xs _ x h
  · exact leL_rng _ _ x h
theorem storeS_size (s : ByteArray) (st sp : Int) (xs : List Nat) : (storeS s st sp xs).size = 15 + s.size + (packTo xs xs.length).length := by
  unfold storeS
  rw [strOfNums_size, List.length_append, storeL_len, leL_len]; omega
/-- what is found in a stored record -/
structure StF (s : ByteArray) (st sp : Int) (xs : List Nat) (a : ByteArray) : Prop where
  b4 : bt a 4 = s.size
  nm : ∀ i, i < s.size → bt a (5 + i) = bt s i
  s0 : (bt a (5 + s.size) : Int) = st % 256
  s1 : (bt a (5 + s.size + 1) : Int) = st / 256 % 256
  s2 : (bt a (5 + s.size + 2) : Int) = st / 65536 % 256
  s3 : (bt a (5 + s.size + 3) : Int) = st / 16777216 % 256
  p0 : (bt a (5 + s.size + 4) : Int) = sp % 256
  p1 : (bt a (5 + s.size + 5) : Int) = sp / 256 % 256
  l0 : (bt a (5 + s.size + 6) : Int) = ((packTo xs xs.length).length : Int) % 256
  l1 : (bt a (5 + s.size + 7) : Int) = ((packTo xs xs.length).length : Int) / 256 % 256
  bd : ∀ i, i < (packTo xs xs.length).length → (bt a (13 + s.size + i) : Int) = (packTo xs xs.length).getD i 0
theorem storeS_facts (hs : s.size ≤ 255) : StF s st sp xs (storeS s st sp xs) := by
  have hr := allL_rng (st := st) (sp := sp) (xs := xs) hs
  have hl : (allL s st sp xs).length = 15 + s.size + (packTo xs xs.length).length := by
    have := storeS_size s st sp xs
    rwa [storeS_all, strOfNums_size] at this
  have hg : ∀ i, i < 15 + s.size + (packTo xs xs.length).length → (bt (storeS s st sp xs) i : Int) = (allL s st sp xs).getD i 0 := fun i hi => by
    rw [storeS_all]; exact bt_nums hr (by omega)
  have hf := allL_form s st sp xs
  generalize allL s st sp xs = Z at *
  generalize leL (chk 0 (strOfNums (storeL s st sp xs).flatten) (strOfNums (storeL s st sp xs).flatten).size) 2 = E at *
  rw [leL_4, leL_2, leL_2] at hf
  have hbl := bI_len s
  have f5 : ∀ k, k < s.size → Z.getD (5 + k) 0 = (bI s).getD k 0 := fun k hk => gd_part hf rfl (by omega)
  have hf2 : Z = ([82, 73, 86, 49, (s.size : Int)] ++ bI s) ++ ([st % 256, st / 256 % 256, st / 65536 % 256, st / 16777216 % 256, sp % 256, sp / 256 % 256, ((packTo xs xs.length).length : Int) % 256, ((packTo xs xs.length).length : Int) / 256 % 256] ++ (packTo xs xs.length ++ E)) := by rw [hf]; simp
  have f6 : ∀ k, k < 8 → Z.getD (5 + s.size + k) 0 = [st % 256, st / 256 % 256, st / 65536 % 256, st / 16777216 % 256, sp % 256, sp / 256 % 256, ((packTo xs xs.length).length : Int) % 256, ((packTo xs xs.length).length : Int) / 256 % 256].getD k 0 := fun k hk => gd_part hf2 (by simp [hbl]; omega) hk
  have hf3 : Z = ([82, 73, 86, 49, (s.size : Int)] ++ bI s ++ [st % 256, st / 256 % 256, st / 65536 % 256, st / 16777216 % 256, sp % 256, sp / 256 % 256, ((packTo xs xs.length).length : Int) % 256, ((packTo xs xs.length).length : Int) / 256 % 256]) ++ (packTo xs xs.length ++ E) := by rw [hf]; simp
  have f7 : ∀ k, k < (packTo xs xs.length).length → Z.getD (13 + s.size + k) 0 = (packTo xs xs.length).getD k 0 := fun k hk => gd_part hf3 (by simp [hbl]; omega) hk
  refine ⟨?_, ?_, ?_, ?_, ?_, ?_, ?_, ?_, ?_, ?_, ?_⟩
  · have := hg 4 (by omega)
    rw [show Z.getD 4 0 = (s.size : Int) by rw [hf]; rfl] at this
    omega
  · intro i hi
    have := hg (5 + i) (by omega)
    rw [f5 i hi, bI_get hi] at this
    omega
  · exact (hg _ (by omega)).trans (f6 0 (by omega))
  · exact (hg _ (by omega)).trans (f6 1 (by omega))
  · exact (hg _ (by omega)).trans (f6 2 (by omega))
  · exact (hg _ (by omega)).trans (f6 3 (by omega))
  · exact (hg _ (by omega)).trans (f6 4 (by omega))
  · exact (hg _ (by omega)).trans (f6 5 (by omega))
  · exact (hg _ (by omega)).trans (f6 6 (by omega))
  · exact (hg _ (by omega)).trans (f6 7 (by omega))
  · exact fun i hi => (hg _ (by omega)).trans (f7 i hi)
theorem StF.beg {a t : ByteArray} (h : StF s st sp xs a) (hb : Beg a t) (hz : a.size = 15 + s.size + (packTo xs xs.length).length) : StF s st sp xs t := by
  have e : ∀ i, i < 15 + s.size + (packTo xs xs.length).length → bt t i = bt a i := fun i hi => hb.2 i (by omega)
  obtain ⟨h1, h2, h3, h4, h5, h6, h7, h8, h9, h10, h11⟩ := h
  refine ⟨?_, fun i hi => ?_, ?_, ?_, ?_, ?_, ?_, ?_, ?_, ?_, fun i hi => ?_⟩
  all_goals rw [e _ (by omega)]
  · exact h1
  · exact h2 i hi
  · exact h3
  · exact h4
  · exact h5
  · exact h6
  · exact h7
  · exact h8
  · exact h9
  · exact h10
  · exact h11 i hi
theorem pack_back (hn : xs.length ≤ 128) (h1 : 1 ≤ xs.length) (hc : ∀ x ∈ xs, cb .f32 x = x) (hb : Bd xs) : uOk 28 (strOfNums (packTo xs xs.length)) = true ∧ uVal 28 (strOfNums (packTo xs xs.length)) = xs := by
  have hp := uRun_pack (lim := 28) (by decide) hn hc hb _ (Nat.le_refl _)
  rw [List.take_length] at hp
  have hr : uTo 28 (strOfNums (packTo xs xs.length)) (strOfNums (packTo xs xs.length)).size = some ⟨xs, prevW xs xs.length, 0, 0⟩ := by
    unfold uTo
    rw [← bL_len, List.take_length, bL_nums (packTo_rng _ _)]
    exact hp
  have hk : uOk 28 (strOfNums (packTo xs xs.length)) = true := by
    rw [uOk_some hr]
    rw [decide_eq_true h1, decide_eq_true rfl]; rfl
  exact ⟨hk, uVal_some hr hk⟩
/-- what a stored record begins, is read as it -/
theorem fst_of {t : ByteArray} (hk : recOk s st sp xs.length = true) (hc : ∀ x ∈ xs, cb .f32 x = x) (hb : Bd xs) (h : Beg (storeS s st sp xs) t) :
    fstOk t = true ∧ fstR t = ((s, st, sp, xs), (storeS s st sp xs).size) ∧ lonN t = (storeS s st sp xs).size ∧ ldOk t = true ∧ ldName t = s ∧ (ldSt t : Int) = st ∧ (ldSp t : Int) = sp ∧ uVal 28 (ldBody t) = xs := by
  obtain ⟨r1, r2, r3, r4, r5, r6⟩ := recOk_range hk
  have hs := recOk_name hk
  have hz := storeS_size s st sp xs
  have hpl := packTo_len xs xs.length
  have hF := (storeS_facts (st := st) (sp := sp) (xs := xs) hs).beg h hz
  have hsz := h.1
  have hN : ldN t = 5 + s.size := by unfold ldN; rw [hF.b4]
  have hZ : lonZ t = (storeS s st sp xs).size := by
    have h0 := hF.l0
    have h1 := hF.l1
    rw [show 5 + s.size + 6 = 11 + s.size by omega] at h0
    rw [show 5 + s.size + 7 = 12 + s.size by omega] at h1
    unfold lonZ
    rw [hF.b4, hz]
    omega
  have hL : lonN t = (storeS s st sp xs).size := by
    rw [lonN_z (by omega) (by rw [hF.b4]; omega) (by omega), hZ]
  have hnm : ldName t = s := by
    unfold ldName
    rw [hN]
    refine ba_ext (by rw [extract_size (by omega)]; omega) fun i hi => ?_
    rw [extract_size (by omega)] at hi
    rw [bt_extract (by omega) (by omega), hF.nm i (by omega)]
  have hst : (ldSt t : Int) = st := by
    have h0 := hF.s0
    have h1 := hF.s1
    have h2 := hF.s2
    have h3 := hF.s3
    unfold ldSt
    rw [hN]
    omega
  have hsp : (ldSp t : Int) = sp := by
    have h0 := hF.p0
    have h1 := hF.p1
    unfold ldSp
    rw [hN]
    omega
  have hbd : ldBody t = strOfNums (packTo xs xs.length) := by
    unfold ldBody
    rw [hN, hZ, hz]
    refine ba_ext (by rw [extract_size (by omega), strOfNums_size]; omega) fun i hi => ?_
    rw [extract_size (by omega)] at hi
    have e1 := hF.bd i (by omega)
    have e2 := bt_nums (packTo_rng xs xs.length) (i := i) (by omega)
    rw [bt_extract (by omega) (by omega), show 5 + s.size + 8 + i = 13 + s.size + i by omega]
    omega
  obtain ⟨u1, u2⟩ := pack_back r6 r5 hc hb
  rw [← hbd] at u1 u2
  have hok : ldOk t = true := by
    unfold ldOk
    rw [u1, u2, hnm, hst, hsp, hk, hZ, h.ext, decide_eq_true rfl]
    rfl
  have hfk : fstOk t = true := by
    unfold fstOk
    rw [hok, hL, hz, decide_eq_true (by omega)]
    rfl
  refine ⟨hfk, ?_, hL, hok, hnm, hst, hsp, u2⟩
  rw [fstR_yes hfk, hnm, hst, hsp, u2, hZ]
theorem lod_of (hk : recOk s st sp xs.length = true) (hc : ∀ x ∈ xs, cb .f32 x = x) (hb : Bd xs) : lodOk (storeS s st sp xs) = true ∧ lodR (storeS s st sp xs) = (s, st, sp, xs) := by
  obtain ⟨h1, h2, h3, h4, h5, h6, h7, h8⟩ := fst_of hk hc hb (Beg.refl _)
  have hz := storeS_size s st sp xs
  have hl : lodOk (storeS s st sp xs) = true := by
    unfold lodOk
    rw [h4, h3, decide_eq_true rfl, decide_eq_true (by omega)]
    rfl
  refine ⟨hl, ?_⟩
  unfold lodR
  rw [hl, h5, h6, h7, h8]
  rfl
/-- a part of a stored record is none -/
theorem fst_part {t : ByteArray} (hk : recOk s st sp xs.length = true) (h : Beg t (storeS s st sp xs)) (hl : t.size < (storeS s st sp xs).size) : fstOk t = false := by
  have hs := recOk_name hk
  have hr := recOk_range hk
  have hz := storeS_size s st sp xs
  have hpl := packTo_len xs xs.length
  have hF := storeS_facts (s := s) (st := st) (sp := sp) (xs := xs) hs
  have h0 : lonN t = 0 := by
    apply lonN_0
    by_cases c1 : t.size < 5
    · exact .inl c1
    by_cases c2 : t.size < 13 + bt t 4
    · exact .inr (.inl c2)
    refine .inr (.inr ?_)
    have b4 : bt t 4 = s.size := by rw [← hF.b4]; exact (h.2 4 (by omega)).symm
    rw [b4] at c2
    have g0 := hF.l0
    have g1 := hF.l1
    rw [show 5 + s.size + 6 = 11 + s.size by omega, h.2 _ (by omega)] at g0
    rw [show 5 + s.size + 7 = 12 + s.size by omega, h.2 _ (by omega)] at g1
    unfold lonZ
    rw [b4]
    omega
  unfold fstOk
  rw [h0]; rfl
end
/-! ### lists of them -/
theorem bt_app_lo {a b : ByteArray} {i : Nat} (h : i < a.size) : bt (a ++ b) i = bt a i := by
  unfold bt
  rw [ByteArray.data_append, Array.toList_append, List.getElem?_append_left (by rw [Array.length_toList]; exact h)]
theorem bt_app_hi {a b : ByteArray} {i : Nat} : bt (a ++ b) (a.size + i) = bt b i := by
  unfold bt
  rw [ByteArray.data_append, Array.toList_append, List.getElem?_append_right (by rw [Array.length_toList]; exact Nat.le_add_right _ _), Array.length_toList]
  congr 3
  exact Nat.add_sub_cancel_left ..
theorem beg_app (a b : ByteArray) : Beg a (a ++ b) := ⟨by rw [ByteArray.size_append]; omega, fun i hi => bt_app_lo hi⟩
theorem ext_app (a b : ByteArray) : (a ++ b).extract a.size (a ++ b).size = b := by
  have hz : (a ++ b).size = a.size + b.size := ByteArray.size_append
  refine ba_ext (by rw [extract_size (Nat.le_refl _), hz]; omega) fun i hi => ?_
  rw [extract_size (Nat.le_refl _), hz] at hi
  rw [bt_extract (Nat.le_refl _) (by omega), bt_app_hi]
theorem ba_assoc (a b c : ByteArray) : a ++ b ++ c = a ++ (b ++ c) := ByteArray.append_assoc
theorem ba_nil (a : ByteArray) : a ++ ⟨#[]⟩ = a := ByteArray.append_empty
theorem nil_ba (a : ByteArray) : ⟨#[]⟩ ++ a = a := ByteArray.empty_append
theorem catR_from (rs : List Rcd) : ∀ (o : ByteArray), rs.foldl (fun o r => o ++ stR r) o = o ++ catR rs := by
  unfold catR
  induction rs with
  | nil => intro o; exact (ba_nil o).symm
  | cons r rs ih =>
    intro o
    simp only [List.foldl_cons]
    rw [ih (o ++ stR r), ih (⟨#[]⟩ ++ stR r), nil_ba, ba_assoc]
theorem catR_cons (r : Rcd) (rs : List Rcd) : catR (r :: rs) = stR r ++ catR rs := by
  have h := catR_from rs (⟨#[]⟩ ++ stR r)
  rw [nil_ba] at h
  have e : catR (r :: rs) = rs.foldl (fun o r => o ++ stR r) (⟨#[]⟩ ++ stR r) := by unfold catR; rfl
  rw [e, nil_ba]; exact h
theorem catR_app (rs qs : List Rcd) : catR (rs ++ qs) = catR rs ++ catR qs := by
  induction rs with
  | nil => rw [List.nil_append, catR_nil, nil_ba]
  | cons r rs ih => rw [List.cons_append, catR_cons, catR_cons, ih, ba_assoc]
/-- records that may be stored -/
def GoodR (r : Rcd) : Prop := okR r = true ∧ (∀ x ∈ r.xs, cb .f32 x = x) ∧ Bd r.xs
theorem GoodR.ok {r : Rcd} (h : GoodR r) : recOk r.s r.st r.sp r.xs.length = true := by have := h.1; unfold okR at this; exact this
theorem rvG_some {r : Rcd} {f : Nat} {s : ByteArray} {p : Nat} (h : GoodR r) (hb : Beg (stR r) (s.extract p s.size)) : rvG (f + 1) s p = (r :: (rvG f s (p + (stR r).size)).1, (rvG f s (p + (stR r).size)).2) := by
  obtain ⟨h1, h2, -⟩ := fst_of h.ok h.2.1 h.2.2 hb
  rw [rvG_yes h1]
  have e : fstC (s.extract p s.size) = r := by unfold fstC; rw [h2]
  rw [e, h2]
  rfl
/-- what is recovered begins with what was stored -/
theorem rvG_app : ∀ (rs : List Rcd) (f : Nat) (pre e : ByteArray), (∀ r ∈ rs, GoodR r) → rs.length ≤ f →
    rvG f (pre ++ (catR rs ++ e)) pre.size = (rs ++ (rvG (f - rs.length) (pre ++ (catR rs ++ e)) (pre.size + (catR rs).size)).1, (rvG (f - rs.length) (pre ++ (catR rs ++ e)) (pre.size + (catR rs).size)).2)
  | [], f, pre, e, _, _ => by rw [catR_nil]; rfl
  | r :: rs, f, pre, e, h, hl => by
    obtain ⟨f, rfl⟩ : ∃ g, f = g + 1 := ⟨f - 1, by rw [List.length_cons] at hl; omega⟩
    have e1 : pre ++ (catR (r :: rs) ++ e) = pre ++ (stR r ++ (catR rs ++ e)) := by rw [catR_cons, ba_assoc]
    have e2 : pre ++ (stR r ++ (catR rs ++ e)) = (pre ++ stR r) ++ (catR rs ++ e) := (ba_assoc _ _ _).symm
    have hb : Beg (stR r) ((pre ++ (stR r ++ (catR rs ++ e))).extract pre.size (pre ++ (stR r ++ (catR rs ++ e))).size) := by rw [ext_app]; exact beg_app _ _
    have hz : pre.size + (stR r).size = (pre ++ stR r).size := ByteArray.size_append.symm
    have hz2 : pre.size + (catR (r :: rs)).size = (pre ++ stR r).size + (catR rs).size := by rw [catR_cons, ByteArray.size_append, ← hz]; omega
    rw [e1, rvG_some (h r List.mem_cons_self) hb, hz, e2, hz2, rvG_app rs f (pre ++ stR r) e (fun q hq => h q (List.mem_cons_of_mem _ hq)) (by rw [List.length_cons] at hl; omega), List.length_cons, show f + 1 - (rs.length + 1) = f - rs.length by omega]
    rfl
theorem rv_app {rs : List Rcd} {e : ByteArray} (h : ∀ r ∈ rs, GoodR r) (hl : rs.length ≤ 8) : rvG 8 (catR rs ++ e) 0 = (rs ++ (rvG (8 - rs.length) (catR rs ++ e) (catR rs).size).1, (rvG (8 - rs.length) (catR rs ++ e) (catR rs).size).2) := by
  have := rvG_app rs 8 ⟨#[]⟩ e h hl
  rw [nil_ba, show ((⟨#[]⟩ : ByteArray)).size = 0 from rfl, Nat.zero_add] at this
  exact this
/-- nothing more is found where no record begins -/
theorem rv_stop {rs : List Rcd} {e : ByteArray} (h : ∀ r ∈ rs, GoodR r) (hl : rs.length ≤ 8) (he : fstOk e = false) : rvL (catR rs ++ e) = rs ∧ rvA (catR rs ++ e) = (catR rs).size := by
  have h1 := rv_app (e := e) h hl
  have h2 : rvG (8 - rs.length) (catR rs ++ e) (catR rs).size = ([], (catR rs).size) := rvG_no (by rw [ext_app]; exact he)
  rw [h2] at h1
  unfold rvL rvA
  rw [h1]
  simp
theorem fst_short {e : ByteArray} (h : e.size < 5) : fstOk e = false := by unfold fstOk; rw [lonN_0 (.inl h)]; rfl
theorem rv_all {rs : List Rcd} (h : ∀ r ∈ rs, GoodR r) (hl : rs.length ≤ 8) : rvL (catR rs) = rs ∧ rvA (catR rs) = (catR rs).size := by
  have := rv_stop (e := ⟨#[]⟩) h hl (fst_short (by decide))
  rwa [ba_nil] at this
theorem rv_more {rs : List Rcd} {e : ByteArray} (h : ∀ r ∈ rs, GoodR r) (hl : rs.length ≤ 8) : rs.length ≤ (rvL (catR rs ++ e)).length := by
  have h1 := rv_app (e := e) h hl
  unfold rvL
  rw [h1]
  simp
theorem ext_nil {s : ByteArray} {p : Nat} (h : p ≤ s.size) : s.extract p p = ⟨#[]⟩ :=
  ba_ext (by rw [extract_size h, Nat.sub_self]; rfl) fun i hi => absurd hi (by rw [extract_size h]; omega)
theorem ext_join {s : ByteArray} {p z y : Nat} (h1 : p + z ≤ y) (h2 : y ≤ s.size) : s.extract p (p + z) ++ s.extract (p + z) y = s.extract p y := by
  refine ba_ext (by rw [ByteArray.size_append, extract_size (by omega), extract_size h2, extract_size h2]; omega) fun i hi => ?_
  rw [ByteArray.size_append, extract_size (by omega), extract_size h2] at hi
  by_cases hc : i < z
  · rw [bt_app_lo (by rw [extract_size (by omega)]; omega), bt_extract (by omega) (by omega), bt_extract h2 (by omega)]
  · have e4 : (s.extract p (p + z)).size = z := by rw [extract_size (by omega)]; omega
    have e5 := bt_app_hi (a := s.extract p (p + z)) (b := s.extract (p + z) y) (i := i - z)
    rw [e4, show z + (i - z) = i by omega] at e5
    rw [e5, bt_extract h2 (by omega), bt_extract h2 (by omega)]
    congr 1
    omega
theorem fstC_eq {t a : ByteArray} {b c : Int} {d : List Nat} {n : Nat} (h : fstR t = ((a, b, c, d), n)) : fstC t = ⟨a, b, c, d⟩ := by unfold fstC; rw [h]
theorem ld_parts {t : ByteArray} (h : ldOk t = true) : recOk (ldName t) (ldSt t) (ldSp t) (uVal 28 (ldBody t)).length = true ∧ storeS (ldName t) (ldSt t) (ldSp t) (uVal 28 (ldBody t)) = t.extract 0 (lonZ t) := by
  unfold ldOk at h
  generalize uVal 28 (ldBody t) = xs at *
  generalize ldBody t = y at *
  rw [Bool.and_eq_true, Bool.and_eq_true, decide_eq_true_eq] at h
  exact h.2
theorem fst_okR {t : ByteArray} (h : fstOk t = true) : okR (fstC t) = true := by
  have h3 := (ld_parts (fst_ne h).2).1
  have e := fstC_eq (fstR_yes h)
  generalize uVal 28 (ldBody t) = xs at *
  rw [e]
  unfold okR
  exact h3
theorem fst_stR {t : ByteArray} (h : fstOk t = true) : stR (fstC t) = t.extract 0 (fstR t).2 := by
  have h3 := (ld_parts (fst_ne h).2).2
  have e := fstC_eq (fstR_yes h)
  have e3 : (fstR t).2 = lonZ t := by rw [fstR_yes h]
  generalize uVal 28 (ldBody t) = xs at *
  rw [e, e3]
  unfold stR
  exact h3
/-- what is recovered, stored again, is what it was recovered from -/
theorem rvG_again : ∀ (f : Nat) (s : ByteArray) (p : Nat), p ≤ s.size → p ≤ (rvG f s p).2 ∧ (rvG f s p).2 ≤ s.size ∧ (∀ r ∈ (rvG f s p).1, okR r = true) ∧ catR (rvG f s p).1 = s.extract p (rvG f s p).2
  | 0, s, p, hp => by
    rw [show rvG 0 s p = ([], p) from rfl]
    exact ⟨Nat.le_refl _, hp, fun r hr => (by cases hr), by rw [catR_nil, ext_nil hp]⟩
  | f + 1, s, p, hp => by
    cases h : fstOk (s.extract p s.size) with
    | false =>
      rw [rvG_no h]
      exact ⟨Nat.le_refl _, hp, fun r hr => (by cases hr), by rw [catR_nil, ext_nil hp]⟩
    | true =>
      have hsz := fst_size h
      have hok := fst_okR h
      have hst := fst_stR h
      rw [extract_size (Nat.le_refl _)] at hsz
      rw [extr_extr (Nat.le_refl _) (by omega)] at hst
      have ih := rvG_again f s (p + (fstR (s.extract p s.size)).2) (by omega)
      rw [rvG_yes h]
      generalize (fstR (s.extract p s.size)).2 = z at *
      generalize fstC (s.extract p s.size) = r0 at *
      generalize rvG f s (p + z) = q at *
      obtain ⟨i1, i2, i3, i4⟩ := ih
      dsimp only
      refine ⟨by omega, i2, fun r hr => ?_, ?_⟩
      · rcases List.mem_cons.1 hr with rfl | hr
        · exact hok
        · exact i3 r hr
      · rw [catR_cons, i4, hst]
        exact ext_join i1 i2
theorem rv_again (s : ByteArray) : rvA s ≤ s.size ∧ srOk (rvL s) = true ∧ srS (rvL s) = s.extract 0 (rvA s) := by
  obtain ⟨h1, h2, h3, h4⟩ := rvG_again 8 s 0 (Nat.zero_le _)
  have h8 := rvL_len s
  unfold rvA
  unfold rvL at h8 ⊢
  have hk : srOk (rvG 8 s 0).1 = true := by
    unfold srOk
    rw [decide_eq_true h8, List.all_eq_true.2 h3]; rfl
  refine ⟨h2, hk, ?_⟩
  unfold srS
  rw [hk]
  exact h4
end Go.Proofs.Ytmplincflbhmiaa
