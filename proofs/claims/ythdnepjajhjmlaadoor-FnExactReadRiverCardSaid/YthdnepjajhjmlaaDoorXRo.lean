/- Rivers told. -/
import Derived.Test.YthdnepjajhjmlaaDoorXRe
namespace Go.Proofs.YthdnepjajhjmlaaDoor
set_option linter.unusedSimpArgs false
set_option linter.unusedVariables false
open Go Cn Go.RowKit
def rv0 : Riv := ⟨[], [], []⟩
section
variable {B : Nat} {A W W' : World} {L L' : List Res} {p1 p2 p3 : Option Addr} {k1 k2 k3 : Nat} {r : Riv}
theorem c_impl_toldRiver (hB : B ≤ W.heap.size) (hv : RvS W p1 k1 p2 k2 p3 k3 r) (hs : r.small) :
    ACalls Tryd.prog B 77 [rvV p1 k1 p2 k2 p3 k3 r] W (fun v W' => v = .tuple #[if rvOk r then rvV p1 k1 p2 k2 p3 k3 r else .agg #[.slice none 0 0, .slice none 0 0, .slice none 0 0], .bool (rvOk r)] ∧ Hp B W W' []) := by
  have H0 : Hp B W W [] := Hp.new hB
  refine acalls_of Tryd.func77 rfl Tryd.ntmps77 (Nat.le_of_ble_eq_true rfl) ?_
  repeat' (first | refine s_pure tabOk rfl rfl rfl rfl ?_ | refine Stp.imp ?_ | refine aops_nil ?_ | refine aw_reg ?_ | refine aw_seq ?_ | refine s_pass rfl rfl rfl ?_ | refine s_len tabOk rfl rfl rfl rfl ?_ | refine aw_true rfl ?_ | refine aw_false rfl ?_ | refine blk_exit_other rfl ?_ | refine s_arith tabOk rfl rfl rfl rfl (by simp only [InR]; omega) ?_ | ((first | ((fail_if_success refine s_told rfl rfl ?_); refine s_part rfl rfl rfl ?_ ?_) | refine aw_if rfl ?_ ?_) <;> intro hc <;> (first | replace hc := DecT.imp hc | simp only [decs] at hc | skip)) | refine s_index1n tabOk rfl rfl rfl rfl (by omega) ?_ | refine s_indexn tabOk rfl rfl rfl rfl (by omega) ?_ | refine s_index1 tabOk rfl rfl rfl rfl (by omega) (by omega) ?_ | refine sh_load tabOk (by assumption) rfl rfl rfl rfl (by repeat (first | exact List.Mem.head _ | apply List.Mem.tail)) (by rfl) (by rfl) ?_ | refine sh_loada tabOk (by assumption) rfl rfl rfl rfl (by repeat (first | exact List.Mem.head _ | apply List.Mem.tail)) (by rfl) ?_ | (refine sh_box (by assumption) rfl rfl rfl rfl rfl rfl ?_; intro _ _ _) | (refine sh_alloc tabOk (by assumption) rfl rfl rfl rfl rfl rfl ?_; intro _ _ _) | (refine sh_store tabOk (by assumption) rfl rfl rfl rfl rfl rfl (by repeat (first | exact Upd.here | apply Upd.there)) (by rfl) ?_; intro _ _) | (refine sh_lit tabOk (by assumption) rfl rfl rfl rfl rfl rfl rfl rfl rfl rfl rfl ?_; intro _ _ _) | refine sh_build tabOk rfl rfl rfl rfl rfl rfl ?_)
  refine s_call rfl rfl rfl rfl ent68 (c_impl_ValidRiver (Hp.size (by assumption)) (Hp.rvA (by assumption) hv) hs) ?_
  rintro _ W2 ⟨rfl, g2⟩
  have H2 := Hp.call0 (by assumption) g2
  repeat' (first | refine s_pure tabOk rfl rfl rfl rfl ?_ | refine Stp.imp ?_ | refine aops_nil ?_ | refine aw_reg ?_ | refine aw_seq ?_ | refine s_pass rfl rfl rfl ?_ | refine s_len tabOk rfl rfl rfl rfl ?_ | refine aw_true rfl ?_ | refine aw_false rfl ?_ | refine blk_exit_other rfl ?_ | refine s_arith tabOk rfl rfl rfl rfl (by simp only [InR]; omega) ?_ | ((first | ((fail_if_success refine s_told rfl rfl ?_); refine s_part rfl rfl rfl ?_ ?_) | refine aw_if rfl ?_ ?_) <;> intro hc <;> (first | replace hc := DecT.imp hc | simp only [decs] at hc | skip)) | refine s_index1n tabOk rfl rfl rfl rfl (by omega) ?_ | refine s_indexn tabOk rfl rfl rfl rfl (by omega) ?_ | refine s_index1 tabOk rfl rfl rfl rfl (by omega) (by omega) ?_ | refine sh_load tabOk (by assumption) rfl rfl rfl rfl (by repeat (first | exact List.Mem.head _ | apply List.Mem.tail)) (by rfl) (by rfl) ?_ | refine sh_loada tabOk (by assumption) rfl rfl rfl rfl (by repeat (first | exact List.Mem.head _ | apply List.Mem.tail)) (by rfl) ?_ | (refine sh_box (by assumption) rfl rfl rfl rfl rfl rfl ?_; intro _ _ _) | (refine sh_alloc tabOk (by assumption) rfl rfl rfl rfl rfl rfl ?_; intro _ _ _) | (refine sh_store tabOk (by assumption) rfl rfl rfl rfl rfl rfl (by repeat (first | exact Upd.here | apply Upd.there)) (by rfl) ?_; intro _ _) | (refine sh_lit tabOk (by assumption) rfl rfl rfl rfl rfl rfl rfl rfl rfl rfl rfl ?_; intro _ _ _) | refine sh_build tabOk rfl rfl rfl rfl rfl rfl ?_)
  · refine retK_ret tabOk (congrArg Array.toList Tryd.results77) (by repeat (first | exact rv_nil | apply rv_tmp rfl rfl | apply rv_cellH (by assumption) rfl rfl rfl (by repeat (first | exact List.Mem.head _ | apply List.Mem.tail)) rfl)) ?_
    exact ⟨by rw [hc]; rfl, Hp.sub (by assumption) (by repeat (first | exact List.nil_sublist _ | refine List.Sublist.cons_cons _ ?_ | refine List.Sublist.cons _ ?_))⟩
  · refine retK_ret tabOk (congrArg Array.toList Tryd.results77) (by repeat (first | exact rv_nil | apply rv_tmp rfl rfl | apply rv_cellH (by assumption) rfl rfl rfl (by repeat (first | exact List.Mem.head _ | apply List.Mem.tail)) rfl)) ?_
    exact ⟨by rw [hc]; rfl, Hp.sub (by assumption) (by repeat (first | exact List.nil_sublist _ | refine List.Sublist.cons_cons _ ?_ | refine List.Sublist.cons _ ?_))⟩
theorem c_spec_l06Give (hB : B ≤ W.heap.size) (hv : RvS W p1 k1 p2 k2 p3 k3 r) (hs : r.small) :
    ACalls Tryd.prog B 121 [rvV p1 k1 p2 k2 p3 k3 r] W (fun v W' => v = .tuple #[if rvOk r then rvV p1 k1 p2 k2 p3 k3 r else .agg #[.slice none 0 0, .slice none 0 0, .slice none 0 0], .bool (rvOk r)] ∧ Hp B W W' []) := by
  have H0 : Hp B W W [] := Hp.new hB
  refine acalls_of Tryd.func121 rfl Tryd.ntmps121 (Nat.le_of_ble_eq_true rfl) ?_
  repeat' (first | refine s_pure tabOk rfl rfl rfl rfl ?_ | refine Stp.imp ?_ | refine aops_nil ?_ | refine aw_reg ?_ | refine aw_seq ?_ | refine s_pass rfl rfl rfl ?_ | refine s_len tabOk rfl rfl rfl rfl ?_ | refine aw_true rfl ?_ | refine aw_false rfl ?_ | refine blk_exit_other rfl ?_ | refine s_arith tabOk rfl rfl rfl rfl (by simp only [InR]; omega) ?_ | ((first | ((fail_if_success refine s_told rfl rfl ?_); refine s_part rfl rfl rfl ?_ ?_) | refine aw_if rfl ?_ ?_) <;> intro hc <;> (first | replace hc := DecT.imp hc | simp only [decs] at hc | skip)) | refine s_index1n tabOk rfl rfl rfl rfl (by omega) ?_ | refine s_indexn tabOk rfl rfl rfl rfl (by omega) ?_ | refine s_index1 tabOk rfl rfl rfl rfl (by omega) (by omega) ?_ | refine sh_load tabOk (by assumption) rfl rfl rfl rfl (by repeat (first | exact List.Mem.head _ | apply List.Mem.tail)) (by rfl) (by rfl) ?_ | refine sh_loada tabOk (by assumption) rfl rfl rfl rfl (by repeat (first | exact List.Mem.head _ | apply List.Mem.tail)) (by rfl) ?_ | (refine sh_box (by assumption) rfl rfl rfl rfl rfl rfl ?_; intro _ _ _) | (refine sh_alloc tabOk (by assumption) rfl rfl rfl rfl rfl rfl ?_; intro _ _ _) | (refine sh_store tabOk (by assumption) rfl rfl rfl rfl rfl rfl (by repeat (first | exact Upd.here | apply Upd.there)) (by rfl) ?_; intro _ _) | (refine sh_lit tabOk (by assumption) rfl rfl rfl rfl rfl rfl rfl rfl rfl rfl rfl ?_; intro _ _ _) | refine sh_build tabOk rfl rfl rfl rfl rfl rfl ?_)
  rename_i b1 W1 H1 b2 W2 H2
  refine s_call rfl rfl rfl rfl ent64 (c_spec_l06Is H2.size (H2.ok _ (by repeat (first | exact List.Mem.head _ | apply List.Mem.tail))) (Hp.rvA H2 hv) hs) ?_
  rintro _ _ ⟨rfl, rfl⟩
  repeat' (first | refine s_pure tabOk rfl rfl rfl rfl ?_ | refine Stp.imp ?_ | refine aops_nil ?_ | refine aw_reg ?_ | refine aw_seq ?_ | refine s_pass rfl rfl rfl ?_ | refine s_len tabOk rfl rfl rfl rfl ?_ | refine aw_true rfl ?_ | refine aw_false rfl ?_ | refine blk_exit_other rfl ?_ | refine s_arith tabOk rfl rfl rfl rfl (by simp only [InR]; omega) ?_ | ((first | ((fail_if_success refine s_told rfl rfl ?_); refine s_part rfl rfl rfl ?_ ?_) | refine aw_if rfl ?_ ?_) <;> intro hc <;> (first | replace hc := DecT.imp hc | simp only [decs] at hc | skip)) | refine s_index1n tabOk rfl rfl rfl rfl (by omega) ?_ | refine s_indexn tabOk rfl rfl rfl rfl (by omega) ?_ | refine s_index1 tabOk rfl rfl rfl rfl (by omega) (by omega) ?_ | refine sh_load tabOk (by assumption) rfl rfl rfl rfl (by repeat (first | exact List.Mem.head _ | apply List.Mem.tail)) (by rfl) (by rfl) ?_ | refine sh_loada tabOk (by assumption) rfl rfl rfl rfl (by repeat (first | exact List.Mem.head _ | apply List.Mem.tail)) (by rfl) ?_ | (refine sh_box (by assumption) rfl rfl rfl rfl rfl rfl ?_; intro _ _ _) | (refine sh_alloc tabOk (by assumption) rfl rfl rfl rfl rfl rfl ?_; intro _ _ _) | (refine sh_store tabOk (by assumption) rfl rfl rfl rfl rfl rfl (by repeat (first | exact Upd.here | apply Upd.there)) (by rfl) ?_; intro _ _) | (refine sh_lit tabOk (by assumption) rfl rfl rfl rfl rfl rfl rfl rfl rfl rfl rfl ?_; intro _ _ _) | refine sh_build tabOk rfl rfl rfl rfl rfl rfl ?_)
  · refine retK_ret tabOk (congrArg Array.toList Tryd.results121) (by repeat (first | exact rv_nil | apply rv_tmp rfl rfl | apply rv_cellH (by assumption) rfl rfl rfl (by repeat (first | exact List.Mem.head _ | apply List.Mem.tail)) rfl)) ?_
    exact ⟨by rw [hc]; rfl, Hp.sub (by assumption) (by repeat (first | exact List.nil_sublist _ | refine List.Sublist.cons_cons _ ?_ | refine List.Sublist.cons _ ?_))⟩
  · refine retK_ret tabOk (congrArg Array.toList Tryd.results121) (by repeat (first | exact rv_nil | apply rv_tmp rfl rfl | apply rv_cellH (by assumption) rfl rfl rfl (by repeat (first | exact List.Mem.head _ | apply List.Mem.tail)) rfl)) ?_
    exact ⟨by rw [hc]; rfl, Hp.sub (by assumption) (by repeat (first | exact List.nil_sublist _ | refine List.Sublist.cons_cons _ ?_ | refine List.Sublist.cons _ ?_))⟩
end
theorem hp_rv0 {B : Nat} {W W' : World} (hb : Hp B W W' []) : Hp B W W' (rvR none 0 none 0 none 0 rv0) := by
  have h1 : ∀ {e : TypeId} {sz : Nat} {L : List Res}, Hp B W W' L → Hp B W W' (.row e sz (.slice none 0 0) 0 [] :: L) := fun {e sz L} H => by
    refine ⟨H.hB, H.below, ?_, ?_, ?_⟩
    · intro r hr
      rcases List.mem_cons.1 hr with rfl | hr
      · exact ⟨World.ownsRow_nil _ _ _ _, rfl, fun x hx => by cases hx⟩
      · exact H.ok r hr
    · intro r hr b hf
      rcases List.mem_cons.1 hr with rfl | hr
      · cases hf
      · exact H.own r hr b hf
    · exact List.pairwise_cons.2 ⟨fun r hr b hf => (by cases hf), H.sep⟩
  exact h1 (h1 (h1 hb))
end Go.Proofs.YthdnepjajhjmlaaDoor
