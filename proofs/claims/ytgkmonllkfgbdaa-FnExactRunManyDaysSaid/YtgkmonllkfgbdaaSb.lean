/- Lists of rivers in laws: sizes, copies, comparison, marks. -/
import Derived.Test.YtgkmonllkfgbdaaHg
import Derived.Test.YtgkmonllkfgbdaaRg
import Derived.Test.YtgkmonllkfgbdaaRu
namespace Go.Proofs.Ytgkmonllkfgbdaa
set_option linter.unusedSimpArgs false
set_option linter.unusedVariables false
open Go Cn Go.RowKit
structure RvP where
  p1 : Option Addr
  k1 : Nat
  p2 : Option Addr
  k2 : Nat
  p3 : Option Addr
  k3 : Nat
abbrev RvY : Type := RvP × Riv
def ry0 : RvY := (⟨none, 0, none, 0, none, 0⟩, ⟨[], [], []⟩)
abbrev ryF (y : RvY) : List Value := rvC y.1.p1 y.1.k1 y.1.p2 y.1.k2 y.1.p3 y.1.k3 y.2
abbrev ryG (y : RvY) : List Res := rvR y.1.p1 y.1.k1 y.1.p2 y.1.k2 y.1.p3 y.1.k3 y.2
abbrev ryS (W : World) (y : RvY) : Prop := RvS W y.1.p1 y.1.k1 y.1.p2 y.1.k2 y.1.p3 y.1.k3 y.2
theorem ryF_len (y : RvY) : (ryF y).length = 3 := rfl
abbrev rsM (v : Value) (ys : List RvY) : Res := .many (lsG 29 3 ryF ryG v ys)
abbrev riM (ys : List RvY) : Res := .many (ys.flatMap ryG)
/-- what is read of a list of rivers -/
def SlY (W : World) (v : Value) (ys : List RvY) : Prop := SlV W 3 v ys.length (ys.flatMap ryF) ∧ ∀ j, j < ys.length → ryS W (ys.getD j ry0)
def fitsY (ys : List RvY) : Prop := ys.length ≤ 9223372036854775807 ∧ ∀ j, j < ys.length → (ys.getD j ry0).2.fits
def rvN (r : Riv) : Nat := r.ds.length + r.dm.length + r.ws.length
def totY (ys : List RvY) : Nat := (ys.map fun y => rvN y.2).sum
theorem totY_take {ys : List RvY} {i : Nat} (h : i < ys.length) : totY (ys.take (i + 1)) = totY (ys.take i) + rvN (ys.getD i ry0).2 := by
  unfold totY
  rw [List.take_succ_eq_append_getElem h, List.map_append, List.sum_append]
  simp [List.getD_eq_getElem?_getD, h]
theorem totY_le (ys : List RvY) (i : Nat) : totY (ys.take i) ≤ totY ys := by
  unfold totY
  conv => rhs; rw [← List.take_append_drop i ys]
  rw [List.map_append, List.sum_append]
  omega
theorem totY_getD {ys : List RvY} {i : Nat} (h : i < ys.length) : rvN (ys.getD i ry0).2 ≤ totY ys := by
  have := totY_take h
  have := totY_le ys (i + 1)
  omega
theorem small_of {r : Riv} (h : rvN r ≤ 1048576) : r.small := by unfold rvN at h; exact ⟨by omega, by omega, by omega⟩
theorem szRv_eq (left : Int) (r : Riv) : szRv left r = if left - rvN r < 0 then -1 else left - rvN r := by
  unfold szRv rvN
  split <;> split <;> omega
def szY (left : Int) (ys : List RvY) : Int := if left - ys.length - totY ys < 0 then -1 else left - ys.length - totY ys
theorem szY_fits {left : Int} {ys : List RvY} (hl : left ≤ 1048576) (h : ¬ szY left ys < 0) : ys.length + totY ys ≤ 1048576 ∧ 0 ≤ szY left ys ∧ szY left ys ≤ left := by
  unfold szY at h ⊢
  split at h
  · omega
  · rename_i h2
    rw [if_neg h2]
    omega
section
variable {B : Nat} {A W W' : World} {L L' : List Res}
theorem SlY.below {v : Value} {ys : List RvY} (h : SlY A v ys) (hb : Below A.heap.size A W) : SlY W v ys := ⟨h.1.below hb, fun j hj => (h.2 j hj).below hb⟩
theorem Hp.slyA {v : Value} {ys : List RvY} (H : Hp B A W L) (h : SlY A v ys) : SlY W v ys := h.below H.below
theorem SlY.form {v : Value} {ys : List RvY} (h : SlY W v ys) : ∃ a c, v = .slice a ys.length c ∧ ys.length ≤ c := h.1.form
theorem SlY.read {a : Option Addr} {c : Nat} {ys : List RvY} (h : SlY W (.slice a ys.length c) ys) (hn : 0 < ys.length) : ∃ b off, a = some ⟨b, off, none⟩ ∧ RdV W b off (ys.flatMap ryF) := h.1.read hn
theorem ryS_of {y : RvY} (h : ∀ r ∈ ryG y, r.ok W) : ryS W y :=
  ⟨row_sli (h _ (List.Mem.head _)), by
    have := h _ (List.Mem.tail _ (List.Mem.head _))
    have h2 := SlV.of_row this
    exact h2, row_sli (h _ (List.Mem.tail _ (List.Mem.tail _ (List.Mem.head _))))⟩
theorem Hp.sly {v : Value} {ys : List RvY} (H : Hp B A W L) (hm : rsM v ys ∈ L) : SlY W v ys := ⟨H.gSl hm, fun j hj => ryS_of fun r hr => H.gIn hm ry0 hj hr⟩
theorem hx_szRiverS {v : Value} {ys : List RvY} (H : Hp B A W L) (hv : SlY A v ys) (hf : fitsY ys) {left : Int} (h0 : 0 ≤ left) (h1 : left ≤ 1048576) :
    ACalls Try.prog B 35 [v, .int .i64 left] W (fun u W' => u = .int .i64 (szY left ys) ∧ Hp B A W' L) := by
  have hv0 := hv
  obtain ⟨a, c, rfl, -⟩ := hv.form
  obtain ⟨hn, hf⟩ := hf
  refine acalls_of Try.func35 rfl Try.ntmps35 (Nat.le_of_ble_eq_true rfl) ?_
  repeat' (first | refine s_pure tabOk rfl rfl rfl rfl ?_ | refine Stp.imp ?_ | refine aops_nil ?_ | refine aw_reg ?_ | refine aw_seq ?_ | refine s_pass rfl rfl rfl ?_ | refine s_len tabOk rfl rfl rfl rfl ?_ | refine aw_true rfl ?_ | refine aw_false rfl ?_ | refine blk_exit_other rfl ?_ | refine s_arith tabOk rfl rfl rfl rfl (by simp only [InR]; omega) ?_ | ((first | ((fail_if_success refine s_told rfl rfl ?_); refine s_part rfl rfl rfl ?_ ?_) | refine aw_if rfl ?_ ?_) <;> intro hc <;> (first | replace hc := DecT.imp hc | simp only [decs] at hc | skip)) | refine s_index1n tabOk rfl rfl rfl rfl (by omega) ?_ | refine s_indexn tabOk rfl rfl rfl rfl (by omega) ?_ | refine s_index1 tabOk rfl rfl rfl rfl (by omega) (by omega) ?_ | refine sh_load tabOk (by assumption) rfl rfl rfl rfl (by repeat (first | exact List.Mem.head _ | apply List.Mem.tail)) (by rfl) (by rfl) ?_ | refine sh_loada tabOk (by assumption) rfl rfl rfl rfl (by repeat (first | exact List.Mem.head _ | apply List.Mem.tail)) (by rfl) ?_ | (refine sh_box (by assumption) rfl rfl rfl rfl rfl rfl ?_; intro _ _ _) | (refine sh_alloc tabOk (by assumption) rfl rfl rfl rfl rfl rfl ?_; intro _ _ _) | (refine sh_store tabOk (by assumption) rfl rfl rfl rfl rfl rfl (by repeat (first | exact Upd.here | apply Upd.there)) (by rfl) ?_; intro _ _) | (refine sh_lit tabOk (by assumption) rfl rfl rfl rfl rfl rfl rfl rfl rfl rfl rfl ?_; intro _ _ _) | refine sh_build tabOk rfl rfl rfl rfl rfl rfl ?_)
  · refine retK_ret tabOk (congrArg Array.toList Try.results35) (rv_tmp rfl rfl rv_nil) ?_
    exact ⟨by unfold szY; rw [if_pos (by omega)]; rfl, H⟩
  refine aw_loopH (fun i : Nat => [(5, .int .i64 i), (1, .int .i64 (left - ys.length - totY (ys.take i))), (0, .slice a ys.length c)]) (fun _ => L) (fun i => i ≤ ys.length ∧ 0 ≤ left - ys.length - totY (ys.take i)) (fun i => ys.length - i) 0 ⟨by omega, by simp [totY]; omega⟩ H (by rw [show left - ys.length - (totY (ys.take 0) : Nat) = left - ys.length by simp [totY]]; exact (by repeat (first | exact less_nil | refine less_cons rfl ?_))) ?_
  rintro i W2 ⟨hi, hp⟩ H2
  repeat' (first | refine s_pure tabOk rfl rfl rfl rfl ?_ | refine Stp.imp ?_ | refine aops_nil ?_ | refine aw_reg ?_ | refine aw_seq ?_ | refine s_pass rfl rfl rfl ?_ | refine s_len tabOk rfl rfl rfl rfl ?_ | refine aw_true rfl ?_ | refine aw_false rfl ?_ | refine blk_exit_other rfl ?_ | refine s_arith tabOk rfl rfl rfl rfl (by simp only [InR]; omega) ?_ | ((first | ((fail_if_success refine s_told rfl rfl ?_); refine s_part rfl rfl rfl ?_ ?_) | refine aw_if rfl ?_ ?_) <;> intro hc <;> (first | replace hc := DecT.imp hc | simp only [decs] at hc | skip)) | refine s_index1n tabOk rfl rfl rfl rfl (by omega) ?_ | refine s_indexn tabOk rfl rfl rfl rfl (by omega) ?_ | refine s_index1 tabOk rfl rfl rfl rfl (by omega) (by omega) ?_ | refine sh_load tabOk (by assumption) rfl rfl rfl rfl (by repeat (first | exact List.Mem.head _ | apply List.Mem.tail)) (by rfl) (by rfl) ?_ | refine sh_loada tabOk (by assumption) rfl rfl rfl rfl (by repeat (first | exact List.Mem.head _ | apply List.Mem.tail)) (by rfl) ?_ | (refine sh_box (by assumption) rfl rfl rfl rfl rfl rfl ?_; intro _ _ _) | (refine sh_alloc tabOk (by assumption) rfl rfl rfl rfl rfl rfl ?_; intro _ _ _) | (refine sh_store tabOk (by assumption) rfl rfl rfl rfl rfl rfl (by repeat (first | exact Upd.here | apply Upd.there)) (by rfl) ?_; intro _ _) | (refine sh_lit tabOk (by assumption) rfl rfl rfl rfl rfl rfl rfl rfl rfl rfl rfl ?_; intro _ _ _) | refine sh_build tabOk rfl rfl rfl rfl rfl rfl ?_)
  all_goals try (exfalso; omega)
  · obtain ⟨b, off, rfl, hr⟩ := hv.read (by omega)
    repeat' (first | refine s_pure tabOk rfl rfl rfl rfl ?_ | refine Stp.imp ?_ | refine aops_nil ?_ | refine aw_reg ?_ | refine aw_seq ?_ | refine s_pass rfl rfl rfl ?_ | refine s_len tabOk rfl rfl rfl rfl ?_ | refine aw_true rfl ?_ | refine aw_false rfl ?_ | refine blk_exit_other rfl ?_ | refine s_arith tabOk rfl rfl rfl rfl (by simp only [InR]; omega) ?_ | ((first | ((fail_if_success refine s_told rfl rfl ?_); refine s_part rfl rfl rfl ?_ ?_) | refine aw_if rfl ?_ ?_) <;> intro hc <;> (first | replace hc := DecT.imp hc | simp only [decs] at hc | skip)) | refine s_index1n tabOk rfl rfl rfl rfl (by omega) ?_ | refine s_indexn tabOk rfl rfl rfl rfl (by omega) ?_ | refine s_index1 tabOk rfl rfl rfl rfl (by omega) (by omega) ?_ | refine sh_load tabOk (by assumption) rfl rfl rfl rfl (by repeat (first | exact List.Mem.head _ | apply List.Mem.tail)) (by rfl) (by rfl) ?_ | refine sh_loada tabOk (by assumption) rfl rfl rfl rfl (by repeat (first | exact List.Mem.head _ | apply List.Mem.tail)) (by rfl) ?_ | (refine sh_box (by assumption) rfl rfl rfl rfl rfl rfl ?_; intro _ _ _) | (refine sh_alloc tabOk (by assumption) rfl rfl rfl rfl rfl rfl ?_; intro _ _ _) | (refine sh_store tabOk (by assumption) rfl rfl rfl rfl rfl rfl (by repeat (first | exact Upd.here | apply Upd.there)) (by rfl) ?_; intro _ _) | (refine sh_lit tabOk (by assumption) rfl rfl rfl rfl rfl rfl rfl rfl rfl rfl rfl ?_; intro _ _ _) | refine sh_build tabOk rfl rfl rfl rfl rfl rfl ?_)
    refine sh_readA tabOk ryF_len ry0 rfl rfl rfl rfl (H2.rd hr) rfl (by omega) ?_
    repeat' (first | refine s_pure tabOk rfl rfl rfl rfl ?_ | refine Stp.imp ?_ | refine aops_nil ?_ | refine aw_reg ?_ | refine aw_seq ?_ | refine s_pass rfl rfl rfl ?_ | refine s_len tabOk rfl rfl rfl rfl ?_ | refine aw_true rfl ?_ | refine aw_false rfl ?_ | refine blk_exit_other rfl ?_ | refine s_arith tabOk rfl rfl rfl rfl (by simp only [InR]; omega) ?_ | ((first | ((fail_if_success refine s_told rfl rfl ?_); refine s_part rfl rfl rfl ?_ ?_) | refine aw_if rfl ?_ ?_) <;> intro hc <;> (first | replace hc := DecT.imp hc | simp only [decs] at hc | skip)) | refine s_index1n tabOk rfl rfl rfl rfl (by omega) ?_ | refine s_indexn tabOk rfl rfl rfl rfl (by omega) ?_ | refine s_index1 tabOk rfl rfl rfl rfl (by omega) (by omega) ?_ | refine sh_load tabOk (by assumption) rfl rfl rfl rfl (by repeat (first | exact List.Mem.head _ | apply List.Mem.tail)) (by rfl) (by rfl) ?_ | refine sh_loada tabOk (by assumption) rfl rfl rfl rfl (by repeat (first | exact List.Mem.head _ | apply List.Mem.tail)) (by rfl) ?_ | (refine sh_box (by assumption) rfl rfl rfl rfl rfl rfl ?_; intro _ _ _) | (refine sh_alloc tabOk (by assumption) rfl rfl rfl rfl rfl rfl ?_; intro _ _ _) | (refine sh_store tabOk (by assumption) rfl rfl rfl rfl rfl rfl (by repeat (first | exact Upd.here | apply Upd.there)) (by rfl) ?_; intro _ _) | (refine sh_lit tabOk (by assumption) rfl rfl rfl rfl rfl rfl rfl rfl rfl rfl rfl ?_; intro _ _ _) | refine sh_build tabOk rfl rfl rfl rfl rfl rfl ?_)
    have hst := totY_take (ys := ys) (i := i) (by omega)
    have hle := totY_le ys (i + 1)
    refine s_call rfl rfl rfl rfl ent11 (hx_szRiver H2 (r := (ys.getD i ry0).2) ⟨_, _, _, _, _, _, rfl, hv0.2 i (by omega)⟩ (hf i (by omega)) hp (by omega)) ?_
    rintro _ W3 ⟨rfl, H3⟩
    rw [szRv_eq]
    by_cases d : left - ys.length - totY (ys.take i) - rvN (ys.getD i ry0).2 < 0
    · rw [if_pos d]
      repeat' (first | refine s_pure tabOk rfl rfl rfl rfl ?_ | refine Stp.imp ?_ | refine aops_nil ?_ | refine aw_reg ?_ | refine aw_seq ?_ | refine s_pass rfl rfl rfl ?_ | refine s_len tabOk rfl rfl rfl rfl ?_ | refine aw_true rfl ?_ | refine aw_false rfl ?_ | refine blk_exit_other rfl ?_ | refine s_arith tabOk rfl rfl rfl rfl (by simp only [InR]; omega) ?_ | ((first | ((fail_if_success refine s_told rfl rfl ?_); refine s_part rfl rfl rfl ?_ ?_) | refine aw_if rfl ?_ ?_) <;> intro hc <;> (first | replace hc := DecT.imp hc | simp only [decs] at hc | skip)) | refine s_index1n tabOk rfl rfl rfl rfl (by omega) ?_ | refine s_indexn tabOk rfl rfl rfl rfl (by omega) ?_ | refine s_index1 tabOk rfl rfl rfl rfl (by omega) (by omega) ?_ | refine sh_load tabOk (by assumption) rfl rfl rfl rfl (by repeat (first | exact List.Mem.head _ | apply List.Mem.tail)) (by rfl) (by rfl) ?_ | refine sh_loada tabOk (by assumption) rfl rfl rfl rfl (by repeat (first | exact List.Mem.head _ | apply List.Mem.tail)) (by rfl) ?_ | (refine sh_box (by assumption) rfl rfl rfl rfl rfl rfl ?_; intro _ _ _) | (refine sh_alloc tabOk (by assumption) rfl rfl rfl rfl rfl rfl ?_; intro _ _ _) | (refine sh_store tabOk (by assumption) rfl rfl rfl rfl rfl rfl (by repeat (first | exact Upd.here | apply Upd.there)) (by rfl) ?_; intro _ _) | (refine sh_lit tabOk (by assumption) rfl rfl rfl rfl rfl rfl rfl rfl rfl rfl rfl ?_; intro _ _ _) | refine sh_build tabOk rfl rfl rfl rfl rfl rfl ?_)
      refine retK_ret tabOk (congrArg Array.toList Try.results35) (rv_tmp rfl rfl rv_nil) ?_
      exact ⟨by unfold szY; rw [if_pos (by omega)]; rfl, H3⟩
    · rw [if_neg d]
      repeat' (first | refine s_pure tabOk rfl rfl rfl rfl ?_ | refine Stp.imp ?_ | refine aops_nil ?_ | refine aw_reg ?_ | refine aw_seq ?_ | refine s_pass rfl rfl rfl ?_ | refine s_len tabOk rfl rfl rfl rfl ?_ | refine aw_true rfl ?_ | refine aw_false rfl ?_ | refine blk_exit_other rfl ?_ | refine s_arith tabOk rfl rfl rfl rfl (by simp only [InR]; omega) ?_ | ((first | ((fail_if_success refine s_told rfl rfl ?_); refine s_part rfl rfl rfl ?_ ?_) | refine aw_if rfl ?_ ?_) <;> intro hc <;> (first | replace hc := DecT.imp hc | simp only [decs] at hc | skip)) | refine s_index1n tabOk rfl rfl rfl rfl (by omega) ?_ | refine s_indexn tabOk rfl rfl rfl rfl (by omega) ?_ | refine s_index1 tabOk rfl rfl rfl rfl (by omega) (by omega) ?_ | refine sh_load tabOk (by assumption) rfl rfl rfl rfl (by repeat (first | exact List.Mem.head _ | apply List.Mem.tail)) (by rfl) (by rfl) ?_ | refine sh_loada tabOk (by assumption) rfl rfl rfl rfl (by repeat (first | exact List.Mem.head _ | apply List.Mem.tail)) (by rfl) ?_ | (refine sh_box (by assumption) rfl rfl rfl rfl rfl rfl ?_; intro _ _ _) | (refine sh_alloc tabOk (by assumption) rfl rfl rfl rfl rfl rfl ?_; intro _ _ _) | (refine sh_store tabOk (by assumption) rfl rfl rfl rfl rfl rfl (by repeat (first | exact Upd.here | apply Upd.there)) (by rfl) ?_; intro _ _) | (refine sh_lit tabOk (by assumption) rfl rfl rfl rfl rfl rfl rfl rfl rfl rfl rfl ?_; intro _ _ _) | refine sh_build tabOk rfl rfl rfl rfl rfl rfl ?_)
      all_goals try (exfalso; omega)
      refine rndh_next (i + 1) ⟨by omega, by omega⟩ (by omega) (by rw [show left - ys.length - (totY (ys.take (i + 1)) : Nat) = left - ys.length - totY (ys.take i) - rvN (ys.getD i ry0).2 by omega]; exact (by repeat (first | exact less_nil | refine less_cons rfl ?_))) H3
  · have hil : i = ys.length := by omega
    subst hil
    refine retK_ret tabOk (congrArg Array.toList Try.results35) (rv_tmp rfl rfl rv_nil) ?_
    rw [List.take_length] at hp ⊢
    exact ⟨by unfold szY; rw [if_neg (by omega)]; rfl, H2⟩
/-- copies: the same rivers -/
def sameR (ys zs : List RvY) : Prop := zs.map (·.2) = ys.map (·.2)
theorem sameR.len {ys zs : List RvY} (h : sameR ys zs) : zs.length = ys.length := by have := congrArg List.length h; simpa using this
theorem sameR.get {ys zs : List RvY} (h : sameR ys zs) {j : Nat} (hj : j < ys.length) : (zs.getD j ry0).2 = (ys.getD j ry0).2 := by
  have hz : j < zs.length := by rw [h.len]; exact hj
  have := congrArg (fun l => l[j]?) h
  simpa [List.getD_eq_getElem?_getD, hj, hz] using this
theorem sameR.tot {ys zs : List RvY} (h : sameR ys zs) : totY zs = totY ys := by
  have e : ∀ l : List RvY, l.map (fun y => rvN y.2) = (l.map (·.2)).map rvN := fun l => by simp
  unfold totY
  rw [e, e, h]
theorem hx_toRiverS {v : Value} {ys : List RvY} (H : Hp B A W L) (hv : SlY A v ys) (hl : ys.length + totY ys ≤ 1048576) :
    ACalls Try.prog B 37 [v] W (fun u W' => ∃ b zs, u = .slice (some ⟨b, 0, none⟩) ys.length ys.length ∧ sameR ys zs ∧ Hp B A W' (rsM (.slice (some ⟨b, 0, none⟩) ys.length ys.length) zs :: L)) := by
  have hv0 := hv
  obtain ⟨a, c, rfl, hac⟩ := hv.form
  refine acalls_of Try.func37 rfl Try.ntmps37 (Nat.le_of_ble_eq_true rfl) ?_
  repeat' (first | refine s_pure tabOk rfl rfl rfl rfl ?_ | refine Stp.imp ?_ | refine aops_nil ?_ | refine aw_reg ?_ | refine aw_seq ?_ | refine s_pass rfl rfl rfl ?_ | refine s_len tabOk rfl rfl rfl rfl ?_ | refine aw_true rfl ?_ | refine aw_false rfl ?_ | refine blk_exit_other rfl ?_ | refine s_arith tabOk rfl rfl rfl rfl (by simp only [InR]; omega) ?_ | ((first | ((fail_if_success refine s_told rfl rfl ?_); refine s_part rfl rfl rfl ?_ ?_) | refine aw_if rfl ?_ ?_) <;> intro hc <;> (first | replace hc := DecT.imp hc | simp only [decs] at hc | skip)) | refine s_index1n tabOk rfl rfl rfl rfl (by omega) ?_ | refine s_indexn tabOk rfl rfl rfl rfl (by omega) ?_ | refine s_index1 tabOk rfl rfl rfl rfl (by omega) (by omega) ?_ | refine sh_load tabOk (by assumption) rfl rfl rfl rfl (by repeat (first | exact List.Mem.head _ | apply List.Mem.tail)) (by rfl) (by rfl) ?_ | refine sh_loada tabOk (by assumption) rfl rfl rfl rfl (by repeat (first | exact List.Mem.head _ | apply List.Mem.tail)) (by rfl) ?_ | (refine sh_box (by assumption) rfl rfl rfl rfl rfl rfl ?_; intro _ _ _) | (refine sh_alloc tabOk (by assumption) rfl rfl rfl rfl rfl rfl ?_; intro _ _ _) | (refine sh_store tabOk (by assumption) rfl rfl rfl rfl rfl rfl (by repeat (first | exact Upd.here | apply Upd.there)) (by rfl) ?_; intro _ _) | (refine sh_lit tabOk (by assumption) rfl rfl rfl rfl rfl rfl rfl rfl rfl rfl rfl ?_; intro _ _ _) | refine sh_build tabOk rfl rfl rfl rfl rfl rfl ?_)
  refine sh_make tabOk H rfl rfl rfl rfl rfl rfl rfl rfl rfl (by omega) rfl (by dsimp only; omega) (by omega) ?_
  intro b W1 H1
  simp only [Int.toNat_natCast] at H1 ⊢
  have er : ∀ n, List.replicate (n * 3) (Value.slice none 0 0) = (List.replicate n ry0).flatMap ryF := by
    intro n
    induction n with
    | zero => rfl
    | succ n ih => rw [List.replicate_succ, show (n + 1) * 3 = n * 3 + 1 + 1 + 1 by omega]; simp only [List.replicate_succ, List.flatMap_cons]; rw [ih]; rfl
  rw [er] at H1
  repeat' (first | refine s_pure tabOk rfl rfl rfl rfl ?_ | refine Stp.imp ?_ | refine aops_nil ?_ | refine aw_reg ?_ | refine aw_seq ?_ | refine s_pass rfl rfl rfl ?_ | refine s_len tabOk rfl rfl rfl rfl ?_ | refine aw_true rfl ?_ | refine aw_false rfl ?_ | refine blk_exit_other rfl ?_ | refine s_arith tabOk rfl rfl rfl rfl (by simp only [InR]; omega) ?_ | ((first | ((fail_if_success refine s_told rfl rfl ?_); refine s_part rfl rfl rfl ?_ ?_) | refine aw_if rfl ?_ ?_) <;> intro hc <;> (first | replace hc := DecT.imp hc | simp only [decs] at hc | skip)) | refine s_index1n tabOk rfl rfl rfl rfl (by omega) ?_ | refine s_indexn tabOk rfl rfl rfl rfl (by omega) ?_ | refine s_index1 tabOk rfl rfl rfl rfl (by omega) (by omega) ?_ | refine sh_load tabOk (by assumption) rfl rfl rfl rfl (by repeat (first | exact List.Mem.head _ | apply List.Mem.tail)) (by rfl) (by rfl) ?_ | refine sh_loada tabOk (by assumption) rfl rfl rfl rfl (by repeat (first | exact List.Mem.head _ | apply List.Mem.tail)) (by rfl) ?_ | (refine sh_box (by assumption) rfl rfl rfl rfl rfl rfl ?_; intro _ _ _) | (refine sh_alloc tabOk (by assumption) rfl rfl rfl rfl rfl rfl ?_; intro _ _ _) | (refine sh_store tabOk (by assumption) rfl rfl rfl rfl rfl rfl (by repeat (first | exact Upd.here | apply Upd.there)) (by rfl) ?_; intro _ _) | (refine sh_lit tabOk (by assumption) rfl rfl rfl rfl rfl rfl rfl rfl rfl rfl rfl ?_; intro _ _ _) | refine sh_build tabOk rfl rfl rfl rfl rfl rfl ?_)
  refine aw_loopH (A := A) (fun x : Nat × List RvY => [(4, .int .i64 x.1), (3, .slice (some ⟨b, 0, none⟩) ys.length ys.length), (0, .slice a ys.length c)])
    (fun x => .row 29 3 (.slice (some ⟨b, 0, none⟩) ys.length ys.length) ys.length ((x.2 ++ List.replicate (ys.length - x.1) ry0).flatMap ryF) :: riM x.2 :: L) (fun x => x.1 ≤ ys.length ∧ sameR (ys.take x.1) x.2) (fun x => ys.length - x.1) (0, []) ⟨by dsimp only; omega, rfl⟩ (by dsimp only; refine Hp.perm (Hp.nilG (L := _ :: L) ?_) (List.Perm.swap _ _ _); simpa using H1) (by dsimp only; exact (by repeat (first | exact less_nil | refine less_cons rfl ?_))) ?_
  rintro ⟨i, zs⟩ W2 ⟨hi, hz⟩ H2
  dsimp only at hi hz H2 ⊢
  have hzl : zs.length = i := by rw [hz.len, List.length_take]; omega
  repeat' (first | refine s_pure tabOk rfl rfl rfl rfl ?_ | refine Stp.imp ?_ | refine aops_nil ?_ | refine aw_reg ?_ | refine aw_seq ?_ | refine s_pass rfl rfl rfl ?_ | refine s_len tabOk rfl rfl rfl rfl ?_ | refine aw_true rfl ?_ | refine aw_false rfl ?_ | refine blk_exit_other rfl ?_ | refine s_arith tabOk rfl rfl rfl rfl (by simp only [InR]; omega) ?_ | ((first | ((fail_if_success refine s_told rfl rfl ?_); refine s_part rfl rfl rfl ?_ ?_) | refine aw_if rfl ?_ ?_) <;> intro hc <;> (first | replace hc := DecT.imp hc | simp only [decs] at hc | skip)) | refine s_index1n tabOk rfl rfl rfl rfl (by omega) ?_ | refine s_indexn tabOk rfl rfl rfl rfl (by omega) ?_ | refine s_index1 tabOk rfl rfl rfl rfl (by omega) (by omega) ?_ | refine sh_load tabOk (by assumption) rfl rfl rfl rfl (by repeat (first | exact List.Mem.head _ | apply List.Mem.tail)) (by rfl) (by rfl) ?_ | refine sh_loada tabOk (by assumption) rfl rfl rfl rfl (by repeat (first | exact List.Mem.head _ | apply List.Mem.tail)) (by rfl) ?_ | (refine sh_box (by assumption) rfl rfl rfl rfl rfl rfl ?_; intro _ _ _) | (refine sh_alloc tabOk (by assumption) rfl rfl rfl rfl rfl rfl ?_; intro _ _ _) | (refine sh_store tabOk (by assumption) rfl rfl rfl rfl rfl rfl (by repeat (first | exact Upd.here | apply Upd.there)) (by rfl) ?_; intro _ _) | (refine sh_lit tabOk (by assumption) rfl rfl rfl rfl rfl rfl rfl rfl rfl rfl rfl ?_; intro _ _ _) | refine sh_build tabOk rfl rfl rfl rfl rfl rfl ?_)
  · obtain ⟨b', off, rfl, hr⟩ := hv.read (by omega)
    repeat' (first | refine s_pure tabOk rfl rfl rfl rfl ?_ | refine Stp.imp ?_ | refine aops_nil ?_ | refine aw_reg ?_ | refine aw_seq ?_ | refine s_pass rfl rfl rfl ?_ | refine s_len tabOk rfl rfl rfl rfl ?_ | refine aw_true rfl ?_ | refine aw_false rfl ?_ | refine blk_exit_other rfl ?_ | refine s_arith tabOk rfl rfl rfl rfl (by simp only [InR]; omega) ?_ | ((first | ((fail_if_success refine s_told rfl rfl ?_); refine s_part rfl rfl rfl ?_ ?_) | refine aw_if rfl ?_ ?_) <;> intro hc <;> (first | replace hc := DecT.imp hc | simp only [decs] at hc | skip)) | refine s_index1n tabOk rfl rfl rfl rfl (by omega) ?_ | refine s_indexn tabOk rfl rfl rfl rfl (by omega) ?_ | refine s_index1 tabOk rfl rfl rfl rfl (by omega) (by omega) ?_ | refine sh_load tabOk (by assumption) rfl rfl rfl rfl (by repeat (first | exact List.Mem.head _ | apply List.Mem.tail)) (by rfl) (by rfl) ?_ | refine sh_loada tabOk (by assumption) rfl rfl rfl rfl (by repeat (first | exact List.Mem.head _ | apply List.Mem.tail)) (by rfl) ?_ | (refine sh_box (by assumption) rfl rfl rfl rfl rfl rfl ?_; intro _ _ _) | (refine sh_alloc tabOk (by assumption) rfl rfl rfl rfl rfl rfl ?_; intro _ _ _) | (refine sh_store tabOk (by assumption) rfl rfl rfl rfl rfl rfl (by repeat (first | exact Upd.here | apply Upd.there)) (by rfl) ?_; intro _ _) | (refine sh_lit tabOk (by assumption) rfl rfl rfl rfl rfl rfl rfl rfl rfl rfl rfl ?_; intro _ _ _) | refine sh_build tabOk rfl rfl rfl rfl rfl rfl ?_)
    refine sh_readA tabOk ryF_len ry0 rfl rfl rfl rfl (H2.rd hr) rfl (by omega) ?_
    have hgl := totY_getD (ys := ys) (i := i) (by omega)
    refine s_call rfl rfl rfl rfl ent13 (hx_toRiver H2 (r := (ys.getD i ry0).2) ⟨_, _, _, _, _, _, rfl, hv0.2 i (by omega)⟩ (small_of (by omega))) ?_
    rintro _ W3 ⟨p1, k1, p2, k2, p3, k3, rfl, H3⟩
    dsimp only [rvR, List.cons_append, List.nil_append] at H3
    repeat' (first | refine s_pure tabOk rfl rfl rfl rfl ?_ | refine Stp.imp ?_ | refine aops_nil ?_ | refine aw_reg ?_ | refine aw_seq ?_ | refine s_pass rfl rfl rfl ?_ | refine s_len tabOk rfl rfl rfl rfl ?_ | refine aw_true rfl ?_ | refine aw_false rfl ?_ | refine blk_exit_other rfl ?_ | refine s_arith tabOk rfl rfl rfl rfl (by simp only [InR]; omega) ?_ | ((first | ((fail_if_success refine s_told rfl rfl ?_); refine s_part rfl rfl rfl ?_ ?_) | refine aw_if rfl ?_ ?_) <;> intro hc <;> (first | replace hc := DecT.imp hc | simp only [decs] at hc | skip)) | refine s_index1n tabOk rfl rfl rfl rfl (by omega) ?_ | refine s_indexn tabOk rfl rfl rfl rfl (by omega) ?_ | refine s_index1 tabOk rfl rfl rfl rfl (by omega) (by omega) ?_ | refine sh_load tabOk (by assumption) rfl rfl rfl rfl (by repeat (first | exact List.Mem.head _ | apply List.Mem.tail)) (by rfl) (by rfl) ?_ | refine sh_loada tabOk (by assumption) rfl rfl rfl rfl (by repeat (first | exact List.Mem.head _ | apply List.Mem.tail)) (by rfl) ?_ | (refine sh_box (by assumption) rfl rfl rfl rfl rfl rfl ?_; intro _ _ _) | (refine sh_alloc tabOk (by assumption) rfl rfl rfl rfl rfl rfl ?_; intro _ _ _) | (refine sh_store tabOk (by assumption) rfl rfl rfl rfl rfl rfl (by repeat (first | exact Upd.here | apply Upd.there)) (by rfl) ?_; intro _ _) | (refine sh_lit tabOk (by assumption) rfl rfl rfl rfl rfl rfl rfl rfl rfl rfl rfl ?_; intro _ _ _) | refine sh_build tabOk rfl rfl rfl rfl rfl rfl ?_)
    simp only [Nat.zero_add]
    refine sh_storeA tabOk ryF_len (⟨p1, k1, p2, k2, p3, k3⟩, (ys.getD i ry0).2) H3 rfl rfl rfl rfl rfl rfl rfl (by repeat (first | exact Upd.here | apply Upd.there)) (by simp; omega) ?_
    intro W4 H4
    have es : (zs ++ List.replicate (ys.length - i) ry0).set i (⟨p1, k1, p2, k2, p3, k3⟩, (ys.getD i ry0).2) = (zs ++ [(⟨p1, k1, p2, k2, p3, k3⟩, (ys.getD i ry0).2)]) ++ List.replicate (ys.length - (i + 1)) ry0 := by
      rw [List.set_append, if_neg (by omega), hzl, Nat.sub_self, show ys.length - i = (ys.length - (i + 1)) + 1 by omega, List.replicate_succ, List.set_cons_zero, List.append_assoc]
      rfl
    rw [es] at H4
    repeat' (first | refine s_pure tabOk rfl rfl rfl rfl ?_ | refine Stp.imp ?_ | refine aops_nil ?_ | refine aw_reg ?_ | refine aw_seq ?_ | refine s_pass rfl rfl rfl ?_ | refine s_len tabOk rfl rfl rfl rfl ?_ | refine aw_true rfl ?_ | refine aw_false rfl ?_ | refine blk_exit_other rfl ?_ | refine s_arith tabOk rfl rfl rfl rfl (by simp only [InR]; omega) ?_ | ((first | ((fail_if_success refine s_told rfl rfl ?_); refine s_part rfl rfl rfl ?_ ?_) | refine aw_if rfl ?_ ?_) <;> intro hc <;> (first | replace hc := DecT.imp hc | simp only [decs] at hc | skip)) | refine s_index1n tabOk rfl rfl rfl rfl (by omega) ?_ | refine s_indexn tabOk rfl rfl rfl rfl (by omega) ?_ | refine s_index1 tabOk rfl rfl rfl rfl (by omega) (by omega) ?_ | refine sh_load tabOk (by assumption) rfl rfl rfl rfl (by repeat (first | exact List.Mem.head _ | apply List.Mem.tail)) (by rfl) (by rfl) ?_ | refine sh_loada tabOk (by assumption) rfl rfl rfl rfl (by repeat (first | exact List.Mem.head _ | apply List.Mem.tail)) (by rfl) ?_ | (refine sh_box (by assumption) rfl rfl rfl rfl rfl rfl ?_; intro _ _ _) | (refine sh_alloc tabOk (by assumption) rfl rfl rfl rfl rfl rfl ?_; intro _ _ _) | (refine sh_store tabOk (by assumption) rfl rfl rfl rfl rfl rfl (by repeat (first | exact Upd.here | apply Upd.there)) (by rfl) ?_; intro _ _) | (refine sh_lit tabOk (by assumption) rfl rfl rfl rfl rfl rfl rfl rfl rfl rfl rfl ?_; intro _ _ _) | refine sh_build tabOk rfl rfl rfl rfl rfl rfl ?_)
    refine rndh_next (i + 1, zs ++ [(⟨p1, k1, p2, k2, p3, k3⟩, (ys.getD i ry0).2)]) ⟨by dsimp only; omega, ?_⟩ (by dsimp only; omega) (by dsimp only; exact (by repeat (first | exact less_nil | refine less_cons rfl ?_))) ?_
    · dsimp only
      unfold sameR at hz ⊢
      rw [take_push ry0 (by omega), List.map_append, List.map_append, hz]
      rfl
    · dsimp only
      refine Hp.perm (Hp.pushG (L := _ :: L) ?_) (List.Perm.swap _ _ _)
      dsimp only [ryG, rvR, List.cons_append, List.nil_append]
      exact H4.picks (by repeat (first | exact Picks.all _ | exact Picks.nil | (apply Picks.cons; (repeat (first | exact Pick.here | apply Pick.there)))))
  · have : i = ys.length := by omega
    subst this
    refine retK_ret tabOk (congrArg Array.toList Try.results37) (rv_tmp rfl rfl rv_nil) ?_
    rw [List.take_length] at hz
    refine ⟨b, zs, rfl, hz, Hp.packG ?_⟩
    simpa [hzl] using H2
theorem hx_eqRiverS {v v' : Value} {ys zs : List RvY} (H : Hp B A W L) (hv : SlY W v ys) (hv' : SlY W v' zs) (hz : sameR ys zs) (hl : ys.length + totY ys ≤ 1048576) : ACalls Try.prog B 39 [v, v'] W (fun u W' => u = .bool true ∧ Hp B A W' L) := by
  have HH := H
  have hB := H.size
  have hv0 := hv
  have hv0' := hv'
  clear H
  have H0 : Hp B W W [] := Hp.new hB
  obtain ⟨a, c, rfl, -⟩ := hv.form
  obtain ⟨a', c', rfl, -⟩ := hv'.form
  have hzl := hz.len
  rw [hzl]
  refine acalls_of Try.func39 rfl Try.ntmps39 (Nat.le_of_ble_eq_true rfl) ?_
  repeat' (first | refine s_pure tabOk rfl rfl rfl rfl ?_ | refine Stp.imp ?_ | refine aops_nil ?_ | refine aw_reg ?_ | refine aw_seq ?_ | refine s_pass rfl rfl rfl ?_ | refine s_len tabOk rfl rfl rfl rfl ?_ | refine aw_true rfl ?_ | refine aw_false rfl ?_ | refine blk_exit_other rfl ?_ | refine s_arith tabOk rfl rfl rfl rfl (by simp only [InR]; omega) ?_ | ((first | ((fail_if_success refine s_told rfl rfl ?_); refine s_part rfl rfl rfl ?_ ?_) | refine aw_if rfl ?_ ?_) <;> intro hc <;> (first | replace hc := DecT.imp hc | simp only [decs] at hc | skip)) | refine s_index1n tabOk rfl rfl rfl rfl (by omega) ?_ | refine s_indexn tabOk rfl rfl rfl rfl (by omega) ?_ | refine s_index1 tabOk rfl rfl rfl rfl (by omega) (by omega) ?_ | refine sh_load tabOk (by assumption) rfl rfl rfl rfl (by repeat (first | exact List.Mem.head _ | apply List.Mem.tail)) (by rfl) (by rfl) ?_ | refine sh_loada tabOk (by assumption) rfl rfl rfl rfl (by repeat (first | exact List.Mem.head _ | apply List.Mem.tail)) (by rfl) ?_ | (refine sh_box (by assumption) rfl rfl rfl rfl rfl rfl ?_; intro _ _ _) | (refine sh_alloc tabOk (by assumption) rfl rfl rfl rfl rfl rfl ?_; intro _ _ _) | (refine sh_store tabOk (by assumption) rfl rfl rfl rfl rfl rfl (by repeat (first | exact Upd.here | apply Upd.there)) (by rfl) ?_; intro _ _) | (refine sh_lit tabOk (by assumption) rfl rfl rfl rfl rfl rfl rfl rfl rfl rfl rfl ?_; intro _ _ _) | refine sh_build tabOk rfl rfl rfl rfl rfl rfl ?_)
  all_goals try (exfalso; omega)
  refine aw_loopH (fun i : Nat => [(5, .int .i64 i), (0, .slice a ys.length c), (1, .slice a' ys.length c')]) (fun _ => []) (fun i => i ≤ ys.length) (fun i => ys.length - i) 0 (by omega) H0 (by repeat (first | exact less_nil | refine less_cons rfl ?_)) ?_
  intro i W2 hi H2
  repeat' (first | refine s_pure tabOk rfl rfl rfl rfl ?_ | refine Stp.imp ?_ | refine aops_nil ?_ | refine aw_reg ?_ | refine aw_seq ?_ | refine s_pass rfl rfl rfl ?_ | refine s_len tabOk rfl rfl rfl rfl ?_ | refine aw_true rfl ?_ | refine aw_false rfl ?_ | refine blk_exit_other rfl ?_ | refine s_arith tabOk rfl rfl rfl rfl (by simp only [InR]; omega) ?_ | ((first | ((fail_if_success refine s_told rfl rfl ?_); refine s_part rfl rfl rfl ?_ ?_) | refine aw_if rfl ?_ ?_) <;> intro hc <;> (first | replace hc := DecT.imp hc | simp only [decs] at hc | skip)) | refine s_index1n tabOk rfl rfl rfl rfl (by omega) ?_ | refine s_indexn tabOk rfl rfl rfl rfl (by omega) ?_ | refine s_index1 tabOk rfl rfl rfl rfl (by omega) (by omega) ?_ | refine sh_load tabOk (by assumption) rfl rfl rfl rfl (by repeat (first | exact List.Mem.head _ | apply List.Mem.tail)) (by rfl) (by rfl) ?_ | refine sh_loada tabOk (by assumption) rfl rfl rfl rfl (by repeat (first | exact List.Mem.head _ | apply List.Mem.tail)) (by rfl) ?_ | (refine sh_box (by assumption) rfl rfl rfl rfl rfl rfl ?_; intro _ _ _) | (refine sh_alloc tabOk (by assumption) rfl rfl rfl rfl rfl rfl ?_; intro _ _ _) | (refine sh_store tabOk (by assumption) rfl rfl rfl rfl rfl rfl (by repeat (first | exact Upd.here | apply Upd.there)) (by rfl) ?_; intro _ _) | (refine sh_lit tabOk (by assumption) rfl rfl rfl rfl rfl rfl rfl rfl rfl rfl rfl ?_; intro _ _ _) | refine sh_build tabOk rfl rfl rfl rfl rfl rfl ?_)
  · obtain ⟨b, off, rfl, hr⟩ := hv.read (by omega)
    obtain ⟨b', off', rfl, hr'⟩ := hv'.read (by omega)
    have hgl := totY_getD (ys := ys) (i := i) (by omega)
    have h1 := hv0.2 i (by omega)
    have h2 := hv0'.2 i (by omega)
    have hg := hz.get (j := i) (by omega)
    refine aw_told followsMixed (DH B W []) [0, 1, 2, 3, 4, 5, 6, 7, 8, 9] (by kernel_rfl) H2 ?_
    repeat (first | refine so_pure tabOk lx rfl rfl rfl rfl (by kernel_rfl) ?_ | refine so_load' tabOk lx rfl rfl rfl rfl (by repeat (first | exact List.Mem.head _ | apply List.Mem.tail)) (by rfl) (by rfl) (by kernel_rfl) ?_ | refine so_loada' tabOk lx rfl rfl rfl rfl (by repeat (first | exact List.Mem.head _ | apply List.Mem.tail)) (by rfl) (by kernel_rfl) ?_ | refine so_len tabOk lx rfl rfl rfl rfl (by kernel_rfl) ?_ | refine so_build' tabOk lx rfl rfl rfl rfl rfl rfl (by kernel_rfl) ?_ | refine so_index1n tabOk lx rfl rfl rfl rfl (by omega) (by kernel_rfl) ?_ | refine so_indexn tabOk lx rfl rfl rfl rfl (by omega) (by kernel_rfl) ?_ | refine so_index1 tabOk lx rfl rfl rfl rfl (by omega) (by omega) (by kernel_rfl) ?_ | refine so_pass lx rfl rfl rfl (by kernel_rfl) ?_ | refine so_arith tabOk lx rfl rfl rfl rfl (by simp only [InR]; omega) (by kernel_rfl) ?_)
    refine so_gives lx rfl rfl rfl (by kernel_rfl) (fun W1 h1 => gh_readA tabOk ryF_len ry0 rfl (Hp.rd h1 hr) rfl (by omega)) ?_
    repeat (first | refine so_pure tabOk lx rfl rfl rfl rfl (by kernel_rfl) ?_ | refine so_load' tabOk lx rfl rfl rfl rfl (by repeat (first | exact List.Mem.head _ | apply List.Mem.tail)) (by rfl) (by rfl) (by kernel_rfl) ?_ | refine so_loada' tabOk lx rfl rfl rfl rfl (by repeat (first | exact List.Mem.head _ | apply List.Mem.tail)) (by rfl) (by kernel_rfl) ?_ | refine so_len tabOk lx rfl rfl rfl rfl (by kernel_rfl) ?_ | refine so_build' tabOk lx rfl rfl rfl rfl rfl rfl (by kernel_rfl) ?_ | refine so_index1n tabOk lx rfl rfl rfl rfl (by omega) (by kernel_rfl) ?_ | refine so_indexn tabOk lx rfl rfl rfl rfl (by omega) (by kernel_rfl) ?_ | refine so_index1 tabOk lx rfl rfl rfl rfl (by omega) (by omega) (by kernel_rfl) ?_ | refine so_pass lx rfl rfl rfl (by kernel_rfl) ?_ | refine so_arith tabOk lx rfl rfl rfl rfl (by simp only [InR]; omega) (by kernel_rfl) ?_)
    refine so_gives lx rfl rfl rfl (by kernel_rfl) (fun W1 h1 => gh_readA tabOk ryF_len ry0 rfl (Hp.rd h1 hr') rfl (by omega)) ?_
    generalize ys.getD i ry0 = y at *
    generalize zs.getD i ry0 = z at *
    obtain ⟨q1, r1⟩ := y
    obtain ⟨q2, r2⟩ := z
    dsimp only at hg
    subst hg
    refine so_single (by kernel_rfl) (th_call [9] (by kernel_rfl) rfl rfl rfl rfl ent15 (hx_eqRiver H2 (Hp.rvA H2 h1) (Hp.rvA H2 h2) (small_of (by dsimp only at hgl ⊢; omega))) ?_)
    rintro _ W3 ⟨rfl, H3⟩
    refine ⟨H3, ?_⟩
    refine so_pure tabOk lx rfl rfl rfl rfl (by kernel_rfl) ?_
    refine so_done ?_
    repeat' (first | refine s_pure tabOk rfl rfl rfl rfl ?_ | refine Stp.imp ?_ | refine aops_nil ?_ | refine aw_reg ?_ | refine aw_seq ?_ | refine s_pass rfl rfl rfl ?_ | refine s_len tabOk rfl rfl rfl rfl ?_ | refine aw_true rfl ?_ | refine aw_false rfl ?_ | refine blk_exit_other rfl ?_ | refine s_arith tabOk rfl rfl rfl rfl (by simp only [InR]; omega) ?_ | ((first | ((fail_if_success refine s_told rfl rfl ?_); refine s_part rfl rfl rfl ?_ ?_) | refine aw_if rfl ?_ ?_) <;> intro hc <;> (first | replace hc := DecT.imp hc | simp only [decs] at hc | skip)) | refine s_index1n tabOk rfl rfl rfl rfl (by omega) ?_ | refine s_indexn tabOk rfl rfl rfl rfl (by omega) ?_ | refine s_index1 tabOk rfl rfl rfl rfl (by omega) (by omega) ?_ | refine sh_load tabOk (by assumption) rfl rfl rfl rfl (by repeat (first | exact List.Mem.head _ | apply List.Mem.tail)) (by rfl) (by rfl) ?_ | refine sh_loada tabOk (by assumption) rfl rfl rfl rfl (by repeat (first | exact List.Mem.head _ | apply List.Mem.tail)) (by rfl) ?_ | (refine sh_box (by assumption) rfl rfl rfl rfl rfl rfl ?_; intro _ _ _) | (refine sh_alloc tabOk (by assumption) rfl rfl rfl rfl rfl rfl ?_; intro _ _ _) | (refine sh_store tabOk (by assumption) rfl rfl rfl rfl rfl rfl (by repeat (first | exact Upd.here | apply Upd.there)) (by rfl) ?_; intro _ _) | (refine sh_lit tabOk (by assumption) rfl rfl rfl rfl rfl rfl rfl rfl rfl rfl rfl ?_; intro _ _ _) | refine sh_build tabOk rfl rfl rfl rfl rfl rfl ?_)
    refine rndh_next (i + 1) (by omega) (by omega) (by repeat (first | exact less_nil | refine less_cons rfl ?_)) H3
  · refine retK_ret tabOk (congrArg Array.toList Try.results39) (rv_tmp rfl rfl rv_nil) ?_
    exact ⟨rfl, HH.call0 H2⟩
/-! ### marks -/
def cntY (ys : List RvY) : Int := (ys.map fun y => cntR y.2).sum
theorem cntY_nil : cntY [] = 0 := rfl
theorem cntY_take {ys : List RvY} {i : Nat} (h : i < ys.length) : cntY (ys.take (i + 1)) = cntY (ys.take i) + cntR (ys.getD i ry0).2 := by
  unfold cntY
  rw [List.take_succ_eq_append_getElem h, List.map_append, List.sum_append]
  simp [List.getD_eq_getElem?_getD, h]
theorem cntR_rng {r : Riv} : 0 ≤ cntR r ∧ cntR r ≤ 4 * (rvN r : Int) := by unfold cntR rvN; omega
theorem cntY_rng (ys : List RvY) : ∀ i, i ≤ ys.length → 0 ≤ cntY (ys.take i) ∧ cntY (ys.take i) ≤ 4 * (totY (ys.take i) : Int)
  | 0, _ => by simp [cntY, totY]
  | i + 1, h => by
    have h1 := cntY_rng ys i (by omega)
    have h2 := cntR_rng (r := (ys.getD i ry0).2)
    rw [cntY_take h, totY_take h]
    omega
/-- the first i marked -/
def mkY (n : Int) (ys : List RvY) (i : Nat) : List RvY := (List.range i).map fun j : Nat => ((ys.getD j ry0).1, mkR (n + cntY (ys.take j)) (ys.getD j ry0).2)
theorem mkY_len (n : Int) (ys : List RvY) (i : Nat) : (mkY n ys i).length = i := by simp [mkY]
theorem mkY_succ (n : Int) (ys : List RvY) (i : Nat) : mkY n ys (i + 1) = mkY n ys i ++ [((ys.getD i ry0).1, mkR (n + cntY (ys.take i)) (ys.getD i ry0).2)] := by simp [mkY, List.range_succ]
theorem mkY_get (n : Int) {ys : List RvY} {i j : Nat} (h : j < i) : (mkY n ys i).getD j ry0 = ((ys.getD j ry0).1, mkR (n + cntY (ys.take j)) (ys.getD j ry0).2) := by simp [mkY, List.getD_eq_getElem?_getD, h]
theorem mkR_F (n : Int) (p : RvP) (r : Riv) : ryF (p, mkR n r) = ryF (p, r) := by
  dsimp only [ryF, rvC, mkR]
  rw [mkI_len, mkD_len, mkI_len]
theorem mkY_F (n : Int) (ys : List RvY) : ∀ i, i ≤ ys.length → (mkY n ys i).flatMap ryF = (ys.take i).flatMap ryF
  | 0, _ => rfl
  | i + 1, h => by
    rw [mkY_succ, take_push ry0 h, List.flatMap_append, List.flatMap_append, mkY_F n ys i (by omega)]
    simp only [List.flatMap_cons, List.flatMap_nil, mkR_F]
theorem mkR_V (n : Int) (p : RvP) (r : Riv) : rvV p.p1 p.k1 p.p2 p.k2 p.p3 p.k3 (mkR n r) = rvV p.p1 p.k1 p.p2 p.k2 p.p3 p.k3 r := by
  dsimp only [rvV, mkR]
  rw [mkI_len, mkD_len, mkI_len]
set_option maxHeartbeats 4000000 in
theorem hc_laws_markRiverS {v : Value} {ys : List RvY} {n : Int} (H : Hp B A W L) (hU : Upd L (rsM v ys) (rsM v (mkY n ys ys.length)) L') (hl : ys.length + totY ys ≤ 1048576) (h0 : 0 ≤ n) (h1 : n ≤ 1000000000) :
    ACalls Try.prog B 40 [v, .int .i64 n] W (fun u W' => u = .int .i64 (n + cntY ys) ∧ Hp B A W' L') := by
  obtain ⟨a, c, rfl, -⟩ := (H.gSl hU.mem).form
  obtain ⟨M, H1, hM⟩ := H.opens hU
  have hend : ∀ W', Hp B A W' (.row 29 3 (.slice a ys.length c) ys.length (ys.flatMap ryF) :: ((mkY n ys ys.length).flatMap ryG ++ ((ys.drop ys.length).flatMap ryG ++ M))) → Hp B A W' L' := fun W' h => by
    refine hM W' ?_
    unfold lsG
    rw [mkY_len, mkY_F n ys _ (Nat.le_refl _), List.take_length]
    simpa using h
  clear hM
  refine acalls_of Try.func40 rfl Try.ntmps40 (Nat.le_of_ble_eq_true rfl) ?_
  repeat' (first | refine s_pure tabOk rfl rfl rfl rfl ?_ | refine Stp.imp ?_ | refine aops_nil ?_ | refine aw_reg ?_ | refine aw_seq ?_ | refine s_pass rfl rfl rfl ?_ | refine s_len tabOk rfl rfl rfl rfl ?_ | refine aw_true rfl ?_ | refine aw_false rfl ?_ | refine blk_exit_other rfl ?_ | refine s_arith tabOk rfl rfl rfl rfl (by simp only [InR]; omega) ?_ | ((first | ((fail_if_success refine s_told rfl rfl ?_); refine s_part rfl rfl rfl ?_ ?_) | refine aw_if rfl ?_ ?_) <;> intro hc <;> (first | replace hc := DecT.imp hc | simp only [decs] at hc | skip)) | refine s_index1n tabOk rfl rfl rfl rfl (by omega) ?_ | refine s_indexn tabOk rfl rfl rfl rfl (by omega) ?_ | refine s_index1 tabOk rfl rfl rfl rfl (by omega) (by omega) ?_ | refine sh_load tabOk (by assumption) rfl rfl rfl rfl (by repeat (first | exact List.Mem.head _ | apply List.Mem.tail)) (by rfl) (by rfl) ?_ | refine sh_loada tabOk (by assumption) rfl rfl rfl rfl (by repeat (first | exact List.Mem.head _ | apply List.Mem.tail)) (by rfl) ?_ | (refine sh_box (by assumption) rfl rfl rfl rfl rfl rfl ?_; intro _ _ _) | (refine sh_alloc tabOk (by assumption) rfl rfl rfl rfl rfl rfl ?_; intro _ _ _) | (refine sh_store tabOk (by assumption) rfl rfl rfl rfl rfl rfl (by repeat (first | exact Upd.here | apply Upd.there)) (by rfl) ?_; intro _ _) | (refine sh_lit tabOk (by assumption) rfl rfl rfl rfl rfl rfl rfl rfl rfl rfl rfl ?_; intro _ _ _) | refine sh_build tabOk rfl rfl rfl rfl rfl rfl ?_)
  refine aw_loopH (A := A) (fun i : Nat => [(5, .int .i64 i), (1, .int .i64 (n + cntY (ys.take i))), (0, .slice a ys.length c)])
    (fun i => .row 29 3 (.slice a ys.length c) ys.length (ys.flatMap ryF) :: ((mkY n ys i).flatMap ryG ++ ((ys.drop i).flatMap ryG ++ M))) (fun i => i ≤ ys.length) (fun i => ys.length - i) 0 (by omega) (by simpa [mkY, lsG] using H1) (by rw [show n + cntY (ys.take 0) = n by simp [cntY]]; exact (by repeat (first | exact less_nil | refine less_cons rfl ?_))) ?_
  intro i W2 hi H2
  by_cases hin : i < ys.length
  rotate_left
  · have hil : i = ys.length := by omega
    subst hil
    repeat' (first | refine s_pure tabOk rfl rfl rfl rfl ?_ | refine Stp.imp ?_ | refine aops_nil ?_ | refine aw_reg ?_ | refine aw_seq ?_ | refine s_pass rfl rfl rfl ?_ | refine s_len tabOk rfl rfl rfl rfl ?_ | refine aw_true rfl ?_ | refine aw_false rfl ?_ | refine blk_exit_other rfl ?_ | refine s_arith tabOk rfl rfl rfl rfl (by simp only [InR]; omega) ?_ | ((first | ((fail_if_success refine s_told rfl rfl ?_); refine s_part rfl rfl rfl ?_ ?_) | refine aw_if rfl ?_ ?_) <;> intro hc <;> (first | replace hc := DecT.imp hc | simp only [decs] at hc | skip)) | refine s_index1n tabOk rfl rfl rfl rfl (by omega) ?_ | refine s_indexn tabOk rfl rfl rfl rfl (by omega) ?_ | refine s_index1 tabOk rfl rfl rfl rfl (by omega) (by omega) ?_ | refine sh_load tabOk (by assumption) rfl rfl rfl rfl (by repeat (first | exact List.Mem.head _ | apply List.Mem.tail)) (by rfl) (by rfl) ?_ | refine sh_loada tabOk (by assumption) rfl rfl rfl rfl (by repeat (first | exact List.Mem.head _ | apply List.Mem.tail)) (by rfl) ?_ | (refine sh_box (by assumption) rfl rfl rfl rfl rfl rfl ?_; intro _ _ _) | (refine sh_alloc tabOk (by assumption) rfl rfl rfl rfl rfl rfl ?_; intro _ _ _) | (refine sh_store tabOk (by assumption) rfl rfl rfl rfl rfl rfl (by repeat (first | exact Upd.here | apply Upd.there)) (by rfl) ?_; intro _ _) | (refine sh_lit tabOk (by assumption) rfl rfl rfl rfl rfl rfl rfl rfl rfl rfl rfl ?_; intro _ _ _) | refine sh_build tabOk rfl rfl rfl rfl rfl rfl ?_)
    all_goals try (exfalso; omega)
    refine retK_ret tabOk (congrArg Array.toList Try.results40) (rv_tmp rfl rfl rv_nil) ?_
    rw [List.take_length]
    exact ⟨rfl, hend _ H2⟩
  have hgl := totY_getD hin
  have hct := cntY_take hin
  have hcr := cntY_rng ys i hi
  have htl := totY_le ys i
  have hr2 := cntR_rng (r := (ys.getD i ry0).2)
  have hdr : (ys.drop i).flatMap ryG = ryG (ys.getD i ry0) ++ (ys.drop (i + 1)).flatMap ryG := by
    rw [List.drop_eq_getElem_cons hin, List.flatMap_cons]
    simp [List.getD_eq_getElem?_getD, hin]
  rw [hdr] at H2
  have hms := mkY_succ n ys i
  have hgd : ys.getD i ry0 = ys.getD i ry0 := rfl
  obtain ⟨b, rfl⟩ := H2.row_ptr (List.Mem.head _) (by omega)
  have hrd := Hp.rowRd H2 (List.Mem.head _)
  generalize hk : n + cntY (ys.take i) = k at *
  have hk0 : 0 ≤ k ∧ k ≤ 1000000000 + 4194304 := by omega
  generalize hy : ys.getD i ry0 = y at *
  obtain ⟨p, r⟩ := y
  have hsm : r.small := small_of (by dsimp only at hgl; omega)
  dsimp only [ryG, rvR, List.cons_append, List.nil_append] at H2
  have s0 := hsm
  obtain ⟨s1, s2, s3⟩ := s0
  dsimp only at hct hr2
  unfold cntR at hct hr2
  repeat' (first | refine s_pure tabOk rfl rfl rfl rfl ?_ | refine Stp.imp ?_ | refine aops_nil ?_ | refine aw_reg ?_ | refine aw_seq ?_ | refine s_pass rfl rfl rfl ?_ | refine s_len tabOk rfl rfl rfl rfl ?_ | refine aw_true rfl ?_ | refine aw_false rfl ?_ | refine blk_exit_other rfl ?_ | refine s_arith tabOk rfl rfl rfl rfl (by simp only [InR]; omega) ?_ | ((first | ((fail_if_success refine s_told rfl rfl ?_); refine s_part rfl rfl rfl ?_ ?_) | refine aw_if rfl ?_ ?_) <;> intro hc <;> (first | replace hc := DecT.imp hc | simp only [decs] at hc | skip)) | refine s_index1n tabOk rfl rfl rfl rfl (by omega) ?_ | refine s_indexn tabOk rfl rfl rfl rfl (by omega) ?_ | refine s_index1 tabOk rfl rfl rfl rfl (by omega) (by omega) ?_ | refine sh_load tabOk (by assumption) rfl rfl rfl rfl (by repeat (first | exact List.Mem.head _ | apply List.Mem.tail)) (by rfl) (by rfl) ?_ | refine sh_loada tabOk (by assumption) rfl rfl rfl rfl (by repeat (first | exact List.Mem.head _ | apply List.Mem.tail)) (by rfl) ?_ | (refine sh_box (by assumption) rfl rfl rfl rfl rfl rfl ?_; intro _ _ _) | (refine sh_alloc tabOk (by assumption) rfl rfl rfl rfl rfl rfl ?_; intro _ _ _) | (refine sh_store tabOk (by assumption) rfl rfl rfl rfl rfl rfl (by repeat (first | exact Upd.here | apply Upd.there)) (by rfl) ?_; intro _ _) | (refine sh_lit tabOk (by assumption) rfl rfl rfl rfl rfl rfl rfl rfl rfl rfl rfl ?_; intro _ _ _) | refine sh_build tabOk rfl rfl rfl rfl rfl rfl ?_)
  all_goals try (exfalso; omega)
  refine sh_readF tabOk ryF_len ry0 (ys := ys) (j := i) (m := 0) (v := .slice p.p1 r.ds.length p.k1) rfl rfl rfl rfl hrd (by simp) hin rfl (by rw [hy]; rfl) ?_
  repeat' (first | refine s_pure tabOk rfl rfl rfl rfl ?_ | refine Stp.imp ?_ | refine aops_nil ?_ | refine aw_reg ?_ | refine aw_seq ?_ | refine s_pass rfl rfl rfl ?_ | refine s_len tabOk rfl rfl rfl rfl ?_ | refine aw_true rfl ?_ | refine aw_false rfl ?_ | refine blk_exit_other rfl ?_ | refine s_arith tabOk rfl rfl rfl rfl (by simp only [InR]; omega) ?_ | ((first | ((fail_if_success refine s_told rfl rfl ?_); refine s_part rfl rfl rfl ?_ ?_) | refine aw_if rfl ?_ ?_) <;> intro hc <;> (first | replace hc := DecT.imp hc | simp only [decs] at hc | skip)) | refine s_index1n tabOk rfl rfl rfl rfl (by omega) ?_ | refine s_indexn tabOk rfl rfl rfl rfl (by omega) ?_ | refine s_index1 tabOk rfl rfl rfl rfl (by omega) (by omega) ?_ | refine sh_load tabOk (by assumption) rfl rfl rfl rfl (by repeat (first | exact List.Mem.head _ | apply List.Mem.tail)) (by rfl) (by rfl) ?_ | refine sh_loada tabOk (by assumption) rfl rfl rfl rfl (by repeat (first | exact List.Mem.head _ | apply List.Mem.tail)) (by rfl) ?_ | (refine sh_box (by assumption) rfl rfl rfl rfl rfl rfl ?_; intro _ _ _) | (refine sh_alloc tabOk (by assumption) rfl rfl rfl rfl rfl rfl ?_; intro _ _ _) | (refine sh_store tabOk (by assumption) rfl rfl rfl rfl rfl rfl (by repeat (first | exact Upd.here | apply Upd.there)) (by rfl) ?_; intro _ _) | (refine sh_lit tabOk (by assumption) rfl rfl rfl rfl rfl rfl rfl rfl rfl rfl rfl ?_; intro _ _ _) | refine sh_build tabOk rfl rfl rfl rfl rfl rfl ?_)
  refine s_call rfl rfl rfl rfl ent22 (hc_laws_markInt64S (xs := r.ds) H2 (Upd.there (upd_in _ Upd.here)) s1 hk0.1 (by omega)) ?_
  rintro _ W3 ⟨rfl, H3⟩
  repeat' (first | refine s_pure tabOk rfl rfl rfl rfl ?_ | refine Stp.imp ?_ | refine aops_nil ?_ | refine aw_reg ?_ | refine aw_seq ?_ | refine s_pass rfl rfl rfl ?_ | refine s_len tabOk rfl rfl rfl rfl ?_ | refine aw_true rfl ?_ | refine aw_false rfl ?_ | refine blk_exit_other rfl ?_ | refine s_arith tabOk rfl rfl rfl rfl (by simp only [InR]; omega) ?_ | ((first | ((fail_if_success refine s_told rfl rfl ?_); refine s_part rfl rfl rfl ?_ ?_) | refine aw_if rfl ?_ ?_) <;> intro hc <;> (first | replace hc := DecT.imp hc | simp only [decs] at hc | skip)) | refine s_index1n tabOk rfl rfl rfl rfl (by omega) ?_ | refine s_indexn tabOk rfl rfl rfl rfl (by omega) ?_ | refine s_index1 tabOk rfl rfl rfl rfl (by omega) (by omega) ?_ | refine sh_load tabOk (by assumption) rfl rfl rfl rfl (by repeat (first | exact List.Mem.head _ | apply List.Mem.tail)) (by rfl) (by rfl) ?_ | refine sh_loada tabOk (by assumption) rfl rfl rfl rfl (by repeat (first | exact List.Mem.head _ | apply List.Mem.tail)) (by rfl) ?_ | (refine sh_box (by assumption) rfl rfl rfl rfl rfl rfl ?_; intro _ _ _) | (refine sh_alloc tabOk (by assumption) rfl rfl rfl rfl rfl rfl ?_; intro _ _ _) | (refine sh_store tabOk (by assumption) rfl rfl rfl rfl rfl rfl (by repeat (first | exact Upd.here | apply Upd.there)) (by rfl) ?_; intro _ _) | (refine sh_lit tabOk (by assumption) rfl rfl rfl rfl rfl rfl rfl rfl rfl rfl rfl ?_; intro _ _ _) | refine sh_build tabOk rfl rfl rfl rfl rfl rfl ?_)
  refine sh_readF tabOk ryF_len ry0 (ys := ys) (j := i) (m := 1) (v := .slice p.p2 r.dm.length p.k2) rfl rfl rfl rfl (Hp.rowRd H3 (List.Mem.head _)) (by simp) hin rfl (by rw [hy]; rfl) ?_
  repeat' (first | refine s_pure tabOk rfl rfl rfl rfl ?_ | refine Stp.imp ?_ | refine aops_nil ?_ | refine aw_reg ?_ | refine aw_seq ?_ | refine s_pass rfl rfl rfl ?_ | refine s_len tabOk rfl rfl rfl rfl ?_ | refine aw_true rfl ?_ | refine aw_false rfl ?_ | refine blk_exit_other rfl ?_ | refine s_arith tabOk rfl rfl rfl rfl (by simp only [InR]; omega) ?_ | ((first | ((fail_if_success refine s_told rfl rfl ?_); refine s_part rfl rfl rfl ?_ ?_) | refine aw_if rfl ?_ ?_) <;> intro hc <;> (first | replace hc := DecT.imp hc | simp only [decs] at hc | skip)) | refine s_index1n tabOk rfl rfl rfl rfl (by omega) ?_ | refine s_indexn tabOk rfl rfl rfl rfl (by omega) ?_ | refine s_index1 tabOk rfl rfl rfl rfl (by omega) (by omega) ?_ | refine sh_load tabOk (by assumption) rfl rfl rfl rfl (by repeat (first | exact List.Mem.head _ | apply List.Mem.tail)) (by rfl) (by rfl) ?_ | refine sh_loada tabOk (by assumption) rfl rfl rfl rfl (by repeat (first | exact List.Mem.head _ | apply List.Mem.tail)) (by rfl) ?_ | (refine sh_box (by assumption) rfl rfl rfl rfl rfl rfl ?_; intro _ _ _) | (refine sh_alloc tabOk (by assumption) rfl rfl rfl rfl rfl rfl ?_; intro _ _ _) | (refine sh_store tabOk (by assumption) rfl rfl rfl rfl rfl rfl (by repeat (first | exact Upd.here | apply Upd.there)) (by rfl) ?_; intro _ _) | (refine sh_lit tabOk (by assumption) rfl rfl rfl rfl rfl rfl rfl rfl rfl rfl rfl ?_; intro _ _ _) | refine sh_build tabOk rfl rfl rfl rfl rfl rfl ?_)
  refine s_call rfl rfl rfl rfl ent68 (hc_laws_markDamS (xs := r.dm) H3 (Upd.there (upd_in _ (Upd.there Upd.here))) s2 (by omega) (by omega)) ?_
  rintro _ W4 ⟨rfl, H4⟩
  repeat' (first | refine s_pure tabOk rfl rfl rfl rfl ?_ | refine Stp.imp ?_ | refine aops_nil ?_ | refine aw_reg ?_ | refine aw_seq ?_ | refine s_pass rfl rfl rfl ?_ | refine s_len tabOk rfl rfl rfl rfl ?_ | refine aw_true rfl ?_ | refine aw_false rfl ?_ | refine blk_exit_other rfl ?_ | refine s_arith tabOk rfl rfl rfl rfl (by simp only [InR]; omega) ?_ | ((first | ((fail_if_success refine s_told rfl rfl ?_); refine s_part rfl rfl rfl ?_ ?_) | refine aw_if rfl ?_ ?_) <;> intro hc <;> (first | replace hc := DecT.imp hc | simp only [decs] at hc | skip)) | refine s_index1n tabOk rfl rfl rfl rfl (by omega) ?_ | refine s_indexn tabOk rfl rfl rfl rfl (by omega) ?_ | refine s_index1 tabOk rfl rfl rfl rfl (by omega) (by omega) ?_ | refine sh_load tabOk (by assumption) rfl rfl rfl rfl (by repeat (first | exact List.Mem.head _ | apply List.Mem.tail)) (by rfl) (by rfl) ?_ | refine sh_loada tabOk (by assumption) rfl rfl rfl rfl (by repeat (first | exact List.Mem.head _ | apply List.Mem.tail)) (by rfl) ?_ | (refine sh_box (by assumption) rfl rfl rfl rfl rfl rfl ?_; intro _ _ _) | (refine sh_alloc tabOk (by assumption) rfl rfl rfl rfl rfl rfl ?_; intro _ _ _) | (refine sh_store tabOk (by assumption) rfl rfl rfl rfl rfl rfl (by repeat (first | exact Upd.here | apply Upd.there)) (by rfl) ?_; intro _ _) | (refine sh_lit tabOk (by assumption) rfl rfl rfl rfl rfl rfl rfl rfl rfl rfl rfl ?_; intro _ _ _) | refine sh_build tabOk rfl rfl rfl rfl rfl rfl ?_)
  refine sh_readF tabOk ryF_len ry0 (ys := ys) (j := i) (m := 2) (v := .slice p.p3 r.ws.length p.k3) rfl rfl rfl rfl (Hp.rowRd H4 (List.Mem.head _)) (by simp) hin rfl (by rw [hy]; rfl) ?_
  repeat' (first | refine s_pure tabOk rfl rfl rfl rfl ?_ | refine Stp.imp ?_ | refine aops_nil ?_ | refine aw_reg ?_ | refine aw_seq ?_ | refine s_pass rfl rfl rfl ?_ | refine s_len tabOk rfl rfl rfl rfl ?_ | refine aw_true rfl ?_ | refine aw_false rfl ?_ | refine blk_exit_other rfl ?_ | refine s_arith tabOk rfl rfl rfl rfl (by simp only [InR]; omega) ?_ | ((first | ((fail_if_success refine s_told rfl rfl ?_); refine s_part rfl rfl rfl ?_ ?_) | refine aw_if rfl ?_ ?_) <;> intro hc <;> (first | replace hc := DecT.imp hc | simp only [decs] at hc | skip)) | refine s_index1n tabOk rfl rfl rfl rfl (by omega) ?_ | refine s_indexn tabOk rfl rfl rfl rfl (by omega) ?_ | refine s_index1 tabOk rfl rfl rfl rfl (by omega) (by omega) ?_ | refine sh_load tabOk (by assumption) rfl rfl rfl rfl (by repeat (first | exact List.Mem.head _ | apply List.Mem.tail)) (by rfl) (by rfl) ?_ | refine sh_loada tabOk (by assumption) rfl rfl rfl rfl (by repeat (first | exact List.Mem.head _ | apply List.Mem.tail)) (by rfl) ?_ | (refine sh_box (by assumption) rfl rfl rfl rfl rfl rfl ?_; intro _ _ _) | (refine sh_alloc tabOk (by assumption) rfl rfl rfl rfl rfl rfl ?_; intro _ _ _) | (refine sh_store tabOk (by assumption) rfl rfl rfl rfl rfl rfl (by repeat (first | exact Upd.here | apply Upd.there)) (by rfl) ?_; intro _ _) | (refine sh_lit tabOk (by assumption) rfl rfl rfl rfl rfl rfl rfl rfl rfl rfl rfl ?_; intro _ _ _) | refine sh_build tabOk rfl rfl rfl rfl rfl rfl ?_)
  refine s_call rfl rfl rfl rfl ent22 (hc_laws_markInt64S (xs := r.ws) H4 (Upd.there (upd_in _ (Upd.there (Upd.there Upd.here)))) s3 (by omega) (by omega)) ?_
  rintro _ W5 ⟨rfl, H5⟩
  repeat' (first | refine s_pure tabOk rfl rfl rfl rfl ?_ | refine Stp.imp ?_ | refine aops_nil ?_ | refine aw_reg ?_ | refine aw_seq ?_ | refine s_pass rfl rfl rfl ?_ | refine s_len tabOk rfl rfl rfl rfl ?_ | refine aw_true rfl ?_ | refine aw_false rfl ?_ | refine blk_exit_other rfl ?_ | refine s_arith tabOk rfl rfl rfl rfl (by simp only [InR]; omega) ?_ | ((first | ((fail_if_success refine s_told rfl rfl ?_); refine s_part rfl rfl rfl ?_ ?_) | refine aw_if rfl ?_ ?_) <;> intro hc <;> (first | replace hc := DecT.imp hc | simp only [decs] at hc | skip)) | refine s_index1n tabOk rfl rfl rfl rfl (by omega) ?_ | refine s_indexn tabOk rfl rfl rfl rfl (by omega) ?_ | refine s_index1 tabOk rfl rfl rfl rfl (by omega) (by omega) ?_ | refine sh_load tabOk (by assumption) rfl rfl rfl rfl (by repeat (first | exact List.Mem.head _ | apply List.Mem.tail)) (by rfl) (by rfl) ?_ | refine sh_loada tabOk (by assumption) rfl rfl rfl rfl (by repeat (first | exact List.Mem.head _ | apply List.Mem.tail)) (by rfl) ?_ | (refine sh_box (by assumption) rfl rfl rfl rfl rfl rfl ?_; intro _ _ _) | (refine sh_alloc tabOk (by assumption) rfl rfl rfl rfl rfl rfl ?_; intro _ _ _) | (refine sh_store tabOk (by assumption) rfl rfl rfl rfl rfl rfl (by repeat (first | exact Upd.here | apply Upd.there)) (by rfl) ?_; intro _ _) | (refine sh_lit tabOk (by assumption) rfl rfl rfl rfl rfl rfl rfl rfl rfl rfl rfl ?_; intro _ _ _) | refine sh_build tabOk rfl rfl rfl rfl rfl rfl ?_)
  refine rndh_next (i + 1) (by omega) (by omega) (by rw [show n + cntY (ys.take (i + 1)) = k + r.ds.length + 4 * r.dm.length + r.ws.length by omega]; exact (by repeat (first | exact less_nil | refine less_cons rfl ?_))) ?_
  rw [hms, List.flatMap_append, List.append_assoc, List.flatMap_cons, List.flatMap_nil, List.append_nil]
  dsimp only [ryG, rvR, mkR, List.cons_append, List.nil_append]
  rw [mkI_len, mkD_len, mkI_len]
  exact H5
end
end Go.Proofs.Ytgkmonllkfgbdaa
