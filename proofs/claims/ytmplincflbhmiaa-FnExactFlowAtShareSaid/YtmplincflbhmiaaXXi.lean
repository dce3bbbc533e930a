/- Gauges ranked, both ways. -/
import Derived.Test.YtmplincflbhmiaaXXh
import Derived.Test.YtmplincflbhmiaaXLh
namespace Go.Proofs.Ytmplincflbhmiaa
set_option linter.unusedSimpArgs false
set_option linter.unusedVariables false
open Go Cn Go.RowKit
/-- one put into an order -/
def insR (lt : Int → Int → Bool) (i : Int) : List Int → List Int
  | [] => [i]
  | y :: r => if lt i y then i :: y :: r else y :: insR lt i r
def rkTo (xs : List Nat) : Nat → List Int
  | 0 => []
  | i + 1 => insR (gtP xs) i (rkTo xs i)
def rkL (xs : List Nat) : List Int := rkTo xs xs.length
theorem insR_perm (lt : Int → Int → Bool) (i : Int) : ∀ R, (insR lt i R).Perm (i :: R)
  | [] => List.Perm.refl _
  | y :: r => by
    unfold insR
    split
    · exact List.Perm.refl _
    · exact ((insR_perm lt i r).cons y).trans (List.Perm.swap i y r)
theorem insR_pw {lt : Int → Int → Bool} (ho : StOr (stL lt)) {i : Int} : ∀ {R : List Int}, R.Pairwise (stL lt) → (∀ y ∈ R, y < i) → (insR lt i R).Pairwise (stL lt)
  | [], _, _ => List.pairwise_singleton _ _
  | y :: r, h, hl => by
    rw [List.pairwise_cons] at h
    unfold insR
    split
    · rename_i hc
      rw [List.pairwise_cons, List.pairwise_cons]
      refine ⟨fun z hz => ?_, h⟩
      rcases List.mem_cons.1 hz with rfl | hz
      · exact .inl hc
      · exact ho.trans _ _ _ (.inl hc) (h.1 z hz)
    · rename_i hc
      rw [List.pairwise_cons]
      refine ⟨fun z hz => ?_, insR_pw ho h.2 fun w hw => hl w (List.mem_cons_of_mem _ hw)⟩
      rcases List.mem_cons.1 ((insR_perm lt i r).subset hz) with rfl | hz
      · exact stL_no (hl y List.mem_cons_self) (by simpa using hc)
      · exact h.1 z hz
theorem rkTo_ok {xs : List Nat} (ho : StOr (stL (gtP xs))) : ∀ i, (rkTo xs i).Perm (mkI 0 i) ∧ (rkTo xs i).Pairwise (stL (gtP xs))
  | 0 => ⟨List.Perm.refl _, List.Pairwise.nil⟩
  | i + 1 => by
    obtain ⟨h1, h2⟩ := rkTo_ok ho i
    refine ⟨?_, insR_pw ho h2 fun y hy => ?_⟩
    · rw [mkI_succ]
      refine (insR_perm _ _ _).trans ((h1.cons _).trans ?_)
      rw [Int.zero_add]
      exact (List.perm_append_singleton _ _).symm
    · have := mkI_mem.1 (h1.subset hy); omega
theorem rkL_eq {xs : List Nat} {zs : List Int} (ho : StOr (stL (gtP xs))) (h1 : zs.Perm (mkI 0 xs.length)) (h2 : zs.Pairwise (stL (gtP xs))) : zs = rkL xs := by
  obtain ⟨h3, h4⟩ := rkTo_ok ho xs.length
  exact pw_uniq ho _ _ (h1.trans h3.symm) h2 h4
theorem rkTo_len (xs : List Nat) : ∀ i, (rkTo xs i).length = i
  | 0 => rfl
  | i + 1 => by
    show (insR (gtP xs) i (rkTo xs i)).length = i + 1
    rw [(insR_perm _ _ _).length_eq, List.length_cons, rkTo_len xs i]
theorem rkL_len (xs : List Nat) : (rkL xs).length = xs.length := rkTo_len xs _
theorem rkL_rng {xs : List Nat} (ho : StOr (stL (gtP xs))) {k : Nat} (h : k < xs.length) : 0 ≤ (rkL xs).getD k 0 ∧ (rkL xs).getD k 0 < xs.length := by
  have h2 := (rkTo_ok ho xs.length).1.subset (getD_mem (xs := rkL xs) (by rw [rkL_len]; exact h))
  have := mkI_mem.1 h2
  omega
theorem rdF_V {W : World} {b off : Nat} {xs : List Nat} (h : RdF W b off xs) : RdV W b off (xs.map (.float .f32)) := by
  intro i hi
  obtain ⟨y, h3, h4⟩ := h i (by simpa using hi)
  refine ⟨_, h3, ?_, rfl⟩
  have hi' : i < xs.length := by simpa using hi
  simp only [cl, h4]
  simp [List.getD_eq_getElem?_getD, hi']
section
variable {B : Nat} {A W W' : World} {L L' : List Res}
theorem c_ranked_1 {bp b off n c : Nat} {e : TypeId} {xs : List Nat} (hb : (Res.blk bp [.slice (some ⟨b, off, none⟩) n c] e).ok W) (hr : RdF W b off xs) (hn : n = xs.length) {i k : Int} (hi : 0 ≤ i ∧ i < n) (hk : 0 ≤ k ∧ k < n) :
    ∃ z : Int, decide (z < 0) = gtP xs i k ∧ ACalls Try.prog B 88 [.int .i64 i, .int .i64 k, .pointer (some ⟨bp, 0, none⟩)] W (fun r W' => r = .int .i64 z ∧ W' = W) := by
  have hv := rdF_V hr
  have rd : ∀ {N : Nat} {E : Env} {o : Oper} {j : Int}, 0 ≤ j ∧ j < n → evLd tab E o = some ⟨b, off + j.toNat, none⟩ → Gives Try.prog N B o E W (.float .f32 (xs.getD j.toNat 0)) W := fun hj ho => gh_readT tabOk (f := Value.float .f32) (d0 := 0) ho hv rfl (by omega)
  refine ⟨if gtP xs i k then -1 else if fcmp .lss .f32 (xs.getD i.toNat 0) (xs.getD k.toNat 0) then 1 else 0, ?_, ?_⟩
  · cases gtP xs i k
    · simp only [Bool.false_eq_true, if_false]
      split <;> decide
    · rfl
  have hg : gtP xs i k = fcmp .gtr .f32 (xs.getD i.toNat 0) (xs.getD k.toNat 0) := by unfold gtP; rfl
  rw [hg]
  refine acalls_of Try.func88 rfl Try.ntmps88 (Nat.le_of_ble_eq_true rfl) ?_
  repeat' (first | refine s_pure tabOk rfl rfl rfl rfl ?_ | refine Stp.imp ?_ | refine aops_nil ?_ | refine aw_reg ?_ | refine aw_seq ?_ | refine s_pass rfl rfl rfl ?_ | refine s_len tabOk rfl rfl rfl rfl ?_ | refine aw_true rfl ?_ | refine aw_false rfl ?_ | refine blk_exit_other rfl ?_ | refine s_arith tabOk rfl rfl rfl rfl (by simp only [InR]; omega) ?_ | ((first | ((fail_if_success refine s_told rfl rfl ?_); refine s_part rfl rfl rfl ?_ ?_) | refine aw_if rfl ?_ ?_) <;> intro hc <;> (first | replace hc := DecT.imp hc | simp only [decs] at hc | skip)) | refine s_index1n tabOk rfl rfl rfl rfl (by omega) ?_ | refine s_indexn tabOk rfl rfl rfl rfl (by omega) ?_ | refine s_index1 tabOk rfl rfl rfl rfl (by omega) (by omega) ?_ | refine sh_load tabOk (by assumption) rfl rfl rfl rfl (by repeat (first | exact List.Mem.head _ | apply List.Mem.tail)) (by rfl) (by rfl) ?_ | refine sh_loada tabOk (by assumption) rfl rfl rfl rfl (by repeat (first | exact List.Mem.head _ | apply List.Mem.tail)) (by rfl) ?_ | (refine sh_box (by assumption) rfl rfl rfl rfl rfl rfl ?_; intro _ _ _) | (refine sh_alloc tabOk (by assumption) rfl rfl rfl rfl rfl rfl ?_; intro _ _ _) | (refine sh_store tabOk (by assumption) rfl rfl rfl rfl rfl rfl (by repeat (first | exact Upd.here | apply Upd.there)) (by rfl) ?_; intro _ _) | (refine sh_lit tabOk (by assumption) rfl rfl rfl rfl rfl rfl rfl rfl rfl rfl rfl ?_; intro _ _ _) | refine sh_build tabOk rfl rfl rfl rfl rfl rfl ?_)
  refine aw_quiet followsMixed lx (by kernel_rfl) ?_; repeat (first | refine q_pure tabOk rfl rfl rfl rfl ?_ | refine q_len tabOk rfl rfl rfl rfl ?_ | refine q_pass rfl rfl rfl ?_ | refine q_index1n tabOk rfl rfl rfl rfl (by omega) ?_ | refine q_indexn tabOk rfl rfl rfl rfl (by omega) ?_ | refine q_index1 tabOk rfl rfl rfl rfl (by omega) (by omega) ?_ | refine q_arith tabOk rfl rfl rfl rfl (by simp only [InR]; omega) ?_)
  refine q_gives rfl rfl rfl (gh_load tabOk rfl hb rfl rfl) ?_
  repeat (first | refine q_pure tabOk rfl rfl rfl rfl ?_ | refine q_len tabOk rfl rfl rfl rfl ?_ | refine q_pass rfl rfl rfl ?_ | refine q_index1n tabOk rfl rfl rfl rfl (by omega) ?_ | refine q_indexn tabOk rfl rfl rfl rfl (by omega) ?_ | refine q_index1 tabOk rfl rfl rfl rfl (by omega) (by omega) ?_ | refine q_arith tabOk rfl rfl rfl rfl (by simp only [InR]; omega) ?_)
  refine q_gives rfl rfl rfl (rd hi rfl) ?_
  repeat (first | refine q_pure tabOk rfl rfl rfl rfl ?_ | refine q_len tabOk rfl rfl rfl rfl ?_ | refine q_pass rfl rfl rfl ?_ | refine q_index1n tabOk rfl rfl rfl rfl (by omega) ?_ | refine q_indexn tabOk rfl rfl rfl rfl (by omega) ?_ | refine q_index1 tabOk rfl rfl rfl rfl (by omega) (by omega) ?_ | refine q_arith tabOk rfl rfl rfl rfl (by simp only [InR]; omega) ?_)
  refine q_gives rfl rfl rfl (gh_load tabOk rfl hb rfl rfl) ?_
  repeat (first | refine q_pure tabOk rfl rfl rfl rfl ?_ | refine q_len tabOk rfl rfl rfl rfl ?_ | refine q_pass rfl rfl rfl ?_ | refine q_index1n tabOk rfl rfl rfl rfl (by omega) ?_ | refine q_indexn tabOk rfl rfl rfl rfl (by omega) ?_ | refine q_index1 tabOk rfl rfl rfl rfl (by omega) (by omega) ?_ | refine q_arith tabOk rfl rfl rfl rfl (by simp only [InR]; omega) ?_)
  refine q_gives rfl rfl rfl (rd hk rfl) ?_
  repeat (first | refine q_pure tabOk rfl rfl rfl rfl ?_ | refine q_len tabOk rfl rfl rfl rfl ?_ | refine q_pass rfl rfl rfl ?_ | refine q_index1n tabOk rfl rfl rfl rfl (by omega) ?_ | refine q_indexn tabOk rfl rfl rfl rfl (by omega) ?_ | refine q_index1 tabOk rfl rfl rfl rfl (by omega) (by omega) ?_ | refine q_arith tabOk rfl rfl rfl rfl (by simp only [InR]; omega) ?_)
  refine aq_nil ?_
  generalize fcmp .gtr .f32 (xs.getD i.toNat 0) (xs.getD k.toNat 0) = q1
  cases q1
  rotate_left
  · repeat' (first | refine s_pure tabOk rfl rfl rfl rfl ?_ | refine Stp.imp ?_ | refine aops_nil ?_ | refine aw_reg ?_ | refine aw_seq ?_ | refine s_pass rfl rfl rfl ?_ | refine s_len tabOk rfl rfl rfl rfl ?_ | refine aw_true rfl ?_ | refine aw_false rfl ?_ | refine blk_exit_other rfl ?_ | refine s_arith tabOk rfl rfl rfl rfl (by simp only [InR]; omega) ?_ | ((first | ((fail_if_success refine s_told rfl rfl ?_); refine s_part rfl rfl rfl ?_ ?_) | refine aw_if rfl ?_ ?_) <;> intro hc <;> (first | replace hc := DecT.imp hc | simp only [decs] at hc | skip)) | refine s_index1n tabOk rfl rfl rfl rfl (by omega) ?_ | refine s_indexn tabOk rfl rfl rfl rfl (by omega) ?_ | refine s_index1 tabOk rfl rfl rfl rfl (by omega) (by omega) ?_ | refine sh_load tabOk (by assumption) rfl rfl rfl rfl (by repeat (first | exact List.Mem.head _ | apply List.Mem.tail)) (by rfl) (by rfl) ?_ | refine sh_loada tabOk (by assumption) rfl rfl rfl rfl (by repeat (first | exact List.Mem.head _ | apply List.Mem.tail)) (by rfl) ?_ | (refine sh_box (by assumption) rfl rfl rfl rfl rfl rfl ?_; intro _ _ _) | (refine sh_alloc tabOk (by assumption) rfl rfl rfl rfl rfl rfl ?_; intro _ _ _) | (refine sh_store tabOk (by assumption) rfl rfl rfl rfl rfl rfl (by repeat (first | exact Upd.here | apply Upd.there)) (by rfl) ?_; intro _ _) | (refine sh_lit tabOk (by assumption) rfl rfl rfl rfl rfl rfl rfl rfl rfl rfl rfl ?_; intro _ _ _) | refine sh_build tabOk rfl rfl rfl rfl rfl rfl ?_)
    refine retK_ret tabOk (congrArg Array.toList Try.results88) (rv_tmp rfl rfl rv_nil) ?_
    exact ⟨rfl, rfl⟩
  repeat' (first | refine s_pure tabOk rfl rfl rfl rfl ?_ | refine Stp.imp ?_ | refine aops_nil ?_ | refine aw_reg ?_ | refine aw_seq ?_ | refine s_pass rfl rfl rfl ?_ | refine s_len tabOk rfl rfl rfl rfl ?_ | refine aw_true rfl ?_ | refine aw_false rfl ?_ | refine blk_exit_other rfl ?_ | refine s_arith tabOk rfl rfl rfl rfl (by simp only [InR]; omega) ?_ | ((first | ((fail_if_success refine s_told rfl rfl ?_); refine s_part rfl rfl rfl ?_ ?_) | refine aw_if rfl ?_ ?_) <;> intro hc <;> (first | replace hc := DecT.imp hc | simp only [decs] at hc | skip)) | refine s_index1n tabOk rfl rfl rfl rfl (by omega) ?_ | refine s_indexn tabOk rfl rfl rfl rfl (by omega) ?_ | refine s_index1 tabOk rfl rfl rfl rfl (by omega) (by omega) ?_ | refine sh_load tabOk (by assumption) rfl rfl rfl rfl (by repeat (first | exact List.Mem.head _ | apply List.Mem.tail)) (by rfl) (by rfl) ?_ | refine sh_loada tabOk (by assumption) rfl rfl rfl rfl (by repeat (first | exact List.Mem.head _ | apply List.Mem.tail)) (by rfl) ?_ | (refine sh_box (by assumption) rfl rfl rfl rfl rfl rfl ?_; intro _ _ _) | (refine sh_alloc tabOk (by assumption) rfl rfl rfl rfl rfl rfl ?_; intro _ _ _) | (refine sh_store tabOk (by assumption) rfl rfl rfl rfl rfl rfl (by repeat (first | exact Upd.here | apply Upd.there)) (by rfl) ?_; intro _ _) | (refine sh_lit tabOk (by assumption) rfl rfl rfl rfl rfl rfl rfl rfl rfl rfl rfl ?_; intro _ _ _) | refine sh_build tabOk rfl rfl rfl rfl rfl rfl ?_)
  refine aw_quiet followsMixed lx (by kernel_rfl) ?_; repeat (first | refine q_pure tabOk rfl rfl rfl rfl ?_ | refine q_len tabOk rfl rfl rfl rfl ?_ | refine q_pass rfl rfl rfl ?_ | refine q_index1n tabOk rfl rfl rfl rfl (by omega) ?_ | refine q_indexn tabOk rfl rfl rfl rfl (by omega) ?_ | refine q_index1 tabOk rfl rfl rfl rfl (by omega) (by omega) ?_ | refine q_arith tabOk rfl rfl rfl rfl (by simp only [InR]; omega) ?_)
  refine q_gives rfl rfl rfl (gh_load tabOk rfl hb rfl rfl) ?_
  repeat (first | refine q_pure tabOk rfl rfl rfl rfl ?_ | refine q_len tabOk rfl rfl rfl rfl ?_ | refine q_pass rfl rfl rfl ?_ | refine q_index1n tabOk rfl rfl rfl rfl (by omega) ?_ | refine q_indexn tabOk rfl rfl rfl rfl (by omega) ?_ | refine q_index1 tabOk rfl rfl rfl rfl (by omega) (by omega) ?_ | refine q_arith tabOk rfl rfl rfl rfl (by simp only [InR]; omega) ?_)
  refine q_gives rfl rfl rfl (rd hi rfl) ?_
  repeat (first | refine q_pure tabOk rfl rfl rfl rfl ?_ | refine q_len tabOk rfl rfl rfl rfl ?_ | refine q_pass rfl rfl rfl ?_ | refine q_index1n tabOk rfl rfl rfl rfl (by omega) ?_ | refine q_indexn tabOk rfl rfl rfl rfl (by omega) ?_ | refine q_index1 tabOk rfl rfl rfl rfl (by omega) (by omega) ?_ | refine q_arith tabOk rfl rfl rfl rfl (by simp only [InR]; omega) ?_)
  refine q_gives rfl rfl rfl (gh_load tabOk rfl hb rfl rfl) ?_
  repeat (first | refine q_pure tabOk rfl rfl rfl rfl ?_ | refine q_len tabOk rfl rfl rfl rfl ?_ | refine q_pass rfl rfl rfl ?_ | refine q_index1n tabOk rfl rfl rfl rfl (by omega) ?_ | refine q_indexn tabOk rfl rfl rfl rfl (by omega) ?_ | refine q_index1 tabOk rfl rfl rfl rfl (by omega) (by omega) ?_ | refine q_arith tabOk rfl rfl rfl rfl (by simp only [InR]; omega) ?_)
  refine q_gives rfl rfl rfl (rd hk rfl) ?_
  repeat (first | refine q_pure tabOk rfl rfl rfl rfl ?_ | refine q_len tabOk rfl rfl rfl rfl ?_ | refine q_pass rfl rfl rfl ?_ | refine q_index1n tabOk rfl rfl rfl rfl (by omega) ?_ | refine q_indexn tabOk rfl rfl rfl rfl (by omega) ?_ | refine q_index1 tabOk rfl rfl rfl rfl (by omega) (by omega) ?_ | refine q_arith tabOk rfl rfl rfl rfl (by simp only [InR]; omega) ?_)
  refine aq_nil ?_
  generalize fcmp .lss .f32 (xs.getD i.toNat 0) (xs.getD k.toNat 0) = q2
  cases q2
  · repeat' (first | refine s_pure tabOk rfl rfl rfl rfl ?_ | refine Stp.imp ?_ | refine aops_nil ?_ | refine aw_reg ?_ | refine aw_seq ?_ | refine s_pass rfl rfl rfl ?_ | refine s_len tabOk rfl rfl rfl rfl ?_ | refine aw_true rfl ?_ | refine aw_false rfl ?_ | refine blk_exit_other rfl ?_ | refine s_arith tabOk rfl rfl rfl rfl (by simp only [InR]; omega) ?_ | ((first | ((fail_if_success refine s_told rfl rfl ?_); refine s_part rfl rfl rfl ?_ ?_) | refine aw_if rfl ?_ ?_) <;> intro hc <;> (first | replace hc := DecT.imp hc | simp only [decs] at hc | skip)) | refine s_index1n tabOk rfl rfl rfl rfl (by omega) ?_ | refine s_indexn tabOk rfl rfl rfl rfl (by omega) ?_ | refine s_index1 tabOk rfl rfl rfl rfl (by omega) (by omega) ?_ | refine sh_load tabOk (by assumption) rfl rfl rfl rfl (by repeat (first | exact List.Mem.head _ | apply List.Mem.tail)) (by rfl) (by rfl) ?_ | refine sh_loada tabOk (by assumption) rfl rfl rfl rfl (by repeat (first | exact List.Mem.head _ | apply List.Mem.tail)) (by rfl) ?_ | (refine sh_box (by assumption) rfl rfl rfl rfl rfl rfl ?_; intro _ _ _) | (refine sh_alloc tabOk (by assumption) rfl rfl rfl rfl rfl rfl ?_; intro _ _ _) | (refine sh_store tabOk (by assumption) rfl rfl rfl rfl rfl rfl (by repeat (first | exact Upd.here | apply Upd.there)) (by rfl) ?_; intro _ _) | (refine sh_lit tabOk (by assumption) rfl rfl rfl rfl rfl rfl rfl rfl rfl rfl rfl ?_; intro _ _ _) | refine sh_build tabOk rfl rfl rfl rfl rfl rfl ?_)
    refine retK_ret tabOk (congrArg Array.toList Try.results88) (rv_tmp rfl rfl rv_nil) ?_
    exact ⟨rfl, rfl⟩
  · repeat' (first | refine s_pure tabOk rfl rfl rfl rfl ?_ | refine Stp.imp ?_ | refine aops_nil ?_ | refine aw_reg ?_ | refine aw_seq ?_ | refine s_pass rfl rfl rfl ?_ | refine s_len tabOk rfl rfl rfl rfl ?_ | refine aw_true rfl ?_ | refine aw_false rfl ?_ | refine blk_exit_other rfl ?_ | refine s_arith tabOk rfl rfl rfl rfl (by simp only [InR]; omega) ?_ | ((first | ((fail_if_success refine s_told rfl rfl ?_); refine s_part rfl rfl rfl ?_ ?_) | refine aw_if rfl ?_ ?_) <;> intro hc <;> (first | replace hc := DecT.imp hc | simp only [decs] at hc | skip)) | refine s_index1n tabOk rfl rfl rfl rfl (by omega) ?_ | refine s_indexn tabOk rfl rfl rfl rfl (by omega) ?_ | refine s_index1 tabOk rfl rfl rfl rfl (by omega) (by omega) ?_ | refine sh_load tabOk (by assumption) rfl rfl rfl rfl (by repeat (first | exact List.Mem.head _ | apply List.Mem.tail)) (by rfl) (by rfl) ?_ | refine sh_loada tabOk (by assumption) rfl rfl rfl rfl (by repeat (first | exact List.Mem.head _ | apply List.Mem.tail)) (by rfl) ?_ | (refine sh_box (by assumption) rfl rfl rfl rfl rfl rfl ?_; intro _ _ _) | (refine sh_alloc tabOk (by assumption) rfl rfl rfl rfl rfl rfl ?_; intro _ _ _) | (refine sh_store tabOk (by assumption) rfl rfl rfl rfl rfl rfl (by repeat (first | exact Upd.here | apply Upd.there)) (by rfl) ?_; intro _ _) | (refine sh_lit tabOk (by assumption) rfl rfl rfl rfl rfl rfl rfl rfl rfl rfl rfl ?_; intro _ _ _) | refine sh_build tabOk rfl rfl rfl rfl rfl rfl ?_)
    refine retK_ret tabOk (congrArg Array.toList Try.results88) (rv_tmp rfl rfl rv_nil) ?_
    exact ⟨rfl, rfl⟩
theorem c_SortStable {b n c : Nat} {g : FuncId} {p : Addr} {lt : Int → Int → Bool} (hE : Ent Try.prog g) (hC : CmpOk B A b n c L g p lt (n : Int)) (hS0 : StOr (stL lt)) (hm : n ≤ 1048576) (H : Hp B A W (rowI b n c (mkI 0 n) :: L)) :
    ACalls Try.prog B 87 [.slice (some ⟨b, 0, none⟩) n c, .func (.func g) #[] #[.pointer (some p)]] W (fun _ W' => ∃ xs, xs.Perm (mkI 0 n) ∧ xs.Pairwise (stL lt) ∧ Hp B A W' (rowI b n c xs :: L)) := by
  refine acalls_of Try.func87 rfl Try.ntmps87 (Nat.le_of_ble_eq_true rfl) ?_
  repeat' (first | refine s_pure tabOk rfl rfl rfl rfl ?_ | refine Stp.imp ?_ | refine aops_nil ?_ | refine aw_reg ?_ | refine aw_seq ?_ | refine s_pass rfl rfl rfl ?_ | refine s_len tabOk rfl rfl rfl rfl ?_ | refine aw_true rfl ?_ | refine aw_false rfl ?_ | refine blk_exit_other rfl ?_ | refine s_arith tabOk rfl rfl rfl rfl (by simp only [InR]; omega) ?_ | ((first | ((fail_if_success refine s_told rfl rfl ?_); refine s_part rfl rfl rfl ?_ ?_) | refine aw_if rfl ?_ ?_) <;> intro hc <;> (first | replace hc := DecT.imp hc | simp only [decs] at hc | skip)) | refine s_index1n tabOk rfl rfl rfl rfl (by omega) ?_ | refine s_indexn tabOk rfl rfl rfl rfl (by omega) ?_ | refine s_index1 tabOk rfl rfl rfl rfl (by omega) (by omega) ?_ | refine sh_load tabOk (by assumption) rfl rfl rfl rfl (by repeat (first | exact List.Mem.head _ | apply List.Mem.tail)) (by rfl) (by rfl) ?_ | refine sh_loada tabOk (by assumption) rfl rfl rfl rfl (by repeat (first | exact List.Mem.head _ | apply List.Mem.tail)) (by rfl) ?_ | (refine sh_box (by assumption) rfl rfl rfl rfl rfl rfl ?_; intro _ _ _) | (refine sh_alloc tabOk (by assumption) rfl rfl rfl rfl rfl rfl ?_; intro _ _ _) | (refine sh_store tabOk (by assumption) rfl rfl rfl rfl rfl rfl (by repeat (first | exact Upd.here | apply Upd.there)) (by rfl) ?_; intro _ _) | (refine sh_lit tabOk (by assumption) rfl rfl rfl rfl rfl rfl rfl rfl rfl rfl rfl ?_; intro _ _ _) | refine sh_build tabOk rfl rfl rfl rfl rfl rfl ?_)
  refine s_call rfl rfl rfl rfl ent115 (h_stable hE hC hS0 hm H) ?_
  rintro _ W2 ⟨xs, h1, h2, H2⟩
  repeat' (first | refine s_pure tabOk rfl rfl rfl rfl ?_ | refine Stp.imp ?_ | refine aops_nil ?_ | refine aw_reg ?_ | refine aw_seq ?_ | refine s_pass rfl rfl rfl ?_ | refine s_len tabOk rfl rfl rfl rfl ?_ | refine aw_true rfl ?_ | refine aw_false rfl ?_ | refine blk_exit_other rfl ?_ | refine s_arith tabOk rfl rfl rfl rfl (by simp only [InR]; omega) ?_ | ((first | ((fail_if_success refine s_told rfl rfl ?_); refine s_part rfl rfl rfl ?_ ?_) | refine aw_if rfl ?_ ?_) <;> intro hc <;> (first | replace hc := DecT.imp hc | simp only [decs] at hc | skip)) | refine s_index1n tabOk rfl rfl rfl rfl (by omega) ?_ | refine s_indexn tabOk rfl rfl rfl rfl (by omega) ?_ | refine s_index1 tabOk rfl rfl rfl rfl (by omega) (by omega) ?_ | refine sh_load tabOk (by assumption) rfl rfl rfl rfl (by repeat (first | exact List.Mem.head _ | apply List.Mem.tail)) (by rfl) (by rfl) ?_ | refine sh_loada tabOk (by assumption) rfl rfl rfl rfl (by repeat (first | exact List.Mem.head _ | apply List.Mem.tail)) (by rfl) ?_ | (refine sh_box (by assumption) rfl rfl rfl rfl rfl rfl ?_; intro _ _ _) | (refine sh_alloc tabOk (by assumption) rfl rfl rfl rfl rfl rfl ?_; intro _ _ _) | (refine sh_store tabOk (by assumption) rfl rfl rfl rfl rfl rfl (by repeat (first | exact Upd.here | apply Upd.there)) (by rfl) ?_; intro _ _) | (refine sh_lit tabOk (by assumption) rfl rfl rfl rfl rfl rfl rfl rfl rfl rfl rfl ?_; intro _ _ _) | refine sh_build tabOk rfl rfl rfl rfl rfl rfl ?_)
  exact retK_normal tabOk (congrArg Array.toList Try.results87) rv_nil ⟨xs, h1, h2, H2⟩
set_option maxHeartbeats 1000000 in
theorem c_impl_ranked {a : Option Addr} {c : Nat} {xs : List Nat} (hv : SlF W (.slice a xs.length c) xs) (hg : gauge xs = true) (hB : B ≤ W.heap.size) :
    ACalls Try.prog B 51 [.slice a xs.length c] W (fun r W' => ∃ b c', r = .slice (some ⟨b, 0, none⟩) xs.length c' ∧ Hp B W W' [rowI b xs.length c' (rkL xs)]) := by
  have H0 : Hp B W W [] := Hp.new hB
  obtain ⟨hfin, g1, g2⟩ := gauge_fin hg
  have ho := gtP_or hfin
  obtain ⟨ba, off, rfl, -⟩ := hv.read (by omega)
  refine acalls_of Try.func51 rfl Try.ntmps51 (Nat.le_of_ble_eq_true rfl) ?_
  repeat' (first | refine s_pure tabOk rfl rfl rfl rfl ?_ | refine Stp.imp ?_ | refine aops_nil ?_ | refine aw_reg ?_ | refine aw_seq ?_ | refine s_pass rfl rfl rfl ?_ | refine s_len tabOk rfl rfl rfl rfl ?_ | refine aw_true rfl ?_ | refine aw_false rfl ?_ | refine blk_exit_other rfl ?_ | refine s_arith tabOk rfl rfl rfl rfl (by simp only [InR]; omega) ?_ | ((first | ((fail_if_success refine s_told rfl rfl ?_); refine s_part rfl rfl rfl ?_ ?_) | refine aw_if rfl ?_ ?_) <;> intro hc <;> (first | replace hc := DecT.imp hc | simp only [decs] at hc | skip)) | refine s_index1n tabOk rfl rfl rfl rfl (by omega) ?_ | refine s_indexn tabOk rfl rfl rfl rfl (by omega) ?_ | refine s_index1 tabOk rfl rfl rfl rfl (by omega) (by omega) ?_ | refine sh_load tabOk (by assumption) rfl rfl rfl rfl (by repeat (first | exact List.Mem.head _ | apply List.Mem.tail)) (by rfl) (by rfl) ?_ | refine sh_loada tabOk (by assumption) rfl rfl rfl rfl (by repeat (first | exact List.Mem.head _ | apply List.Mem.tail)) (by rfl) ?_ | (refine sh_box (by assumption) rfl rfl rfl rfl rfl rfl ?_; intro _ _ _) | (refine sh_alloc tabOk (by assumption) rfl rfl rfl rfl rfl rfl ?_; intro _ _ _) | (refine sh_store tabOk (by assumption) rfl rfl rfl rfl rfl rfl (by repeat (first | exact Upd.here | apply Upd.there)) (by rfl) ?_; intro _ _) | (refine sh_lit tabOk (by assumption) rfl rfl rfl rfl rfl rfl rfl rfl rfl rfl rfl ?_; intro _ _ _) | refine sh_build tabOk rfl rfl rfl rfl rfl rfl ?_)
  rename_i b1 W1 H1 b2 W2 H2
  refine aw_loopH (fun x : Nat × Option Addr × Nat => [(8, .int .i64 x.1), (7, .int .i64 xs.length), (3, .slice x.2.1 x.1 x.2.2), (1, .pointer (some ⟨b1, 0, none⟩))])
    (fun x => [.row 2 1 (.slice x.2.1 x.1 x.2.2) x.1 (iC (mkI 0 x.1)), .blk b1 [.slice (some ⟨ba, off, none⟩) xs.length c] 22]) (fun x => x.1 ≤ xs.length) (fun x => xs.length - x.1) (0, some ⟨b2, 0, none⟩, 0) (Nat.zero_le _) (by dsimp only; exact H2.picks (by repeat (first | exact Picks.nil | (apply Picks.cons; (repeat (first | exact Pick.here | apply Pick.there)))))) (by dsimp only; exact (by repeat (first | exact less_nil | refine less_cons rfl ?_))) ?_
  rintro ⟨i, ad, cp⟩ W3 hi H3
  dsimp only at hi H3 ⊢
  clear H1 H2
  by_cases hin : i < xs.length
  · repeat' (first | refine s_pure tabOk rfl rfl rfl rfl ?_ | refine Stp.imp ?_ | refine aops_nil ?_ | refine aw_reg ?_ | refine aw_seq ?_ | refine s_pass rfl rfl rfl ?_ | refine s_len tabOk rfl rfl rfl rfl ?_ | refine aw_true rfl ?_ | refine aw_false rfl ?_ | refine blk_exit_other rfl ?_ | refine s_arith tabOk rfl rfl rfl rfl (by simp only [InR]; omega) ?_ | ((first | ((fail_if_success refine s_told rfl rfl ?_); refine s_part rfl rfl rfl ?_ ?_) | refine aw_if rfl ?_ ?_) <;> intro hc <;> (first | replace hc := DecT.imp hc | simp only [decs] at hc | skip)) | refine s_index1n tabOk rfl rfl rfl rfl (by omega) ?_ | refine s_indexn tabOk rfl rfl rfl rfl (by omega) ?_ | refine s_index1 tabOk rfl rfl rfl rfl (by omega) (by omega) ?_ | refine sh_load tabOk (by assumption) rfl rfl rfl rfl (by repeat (first | exact List.Mem.head _ | apply List.Mem.tail)) (by rfl) (by rfl) ?_ | refine sh_loada tabOk (by assumption) rfl rfl rfl rfl (by repeat (first | exact List.Mem.head _ | apply List.Mem.tail)) (by rfl) ?_ | (refine sh_box (by assumption) rfl rfl rfl rfl rfl rfl ?_; intro _ _ _) | (refine sh_alloc tabOk (by assumption) rfl rfl rfl rfl rfl rfl ?_; intro _ _ _) | (refine sh_store tabOk (by assumption) rfl rfl rfl rfl rfl rfl (by repeat (first | exact Upd.here | apply Upd.there)) (by rfl) ?_; intro _ _) | (refine sh_lit tabOk (by assumption) rfl rfl rfl rfl rfl rfl rfl rfl rfl rfl rfl ?_; intro _ _ _) | refine sh_build tabOk rfl rfl rfl rfl rfl rfl ?_)
    all_goals try (exfalso; omega)
    refine sh_push tabOk (f := Value.int .i64) (y := (i : Int)) (ys := mkI 0 i) (by assumption) rfl rfl rfl rfl rfl rfl rfl rfl (fun _ _ => (by repeat (first | exact Upd.here | apply Upd.there))) (by omega) ?_
    intro a7 c7 W7 H7
    rw [show mkI 0 i ++ [(i : Int)] = mkI 0 (i + 1) by rw [mkI_succ, Int.zero_add]] at H7
    repeat' (first | refine s_pure tabOk rfl rfl rfl rfl ?_ | refine Stp.imp ?_ | refine aops_nil ?_ | refine aw_reg ?_ | refine aw_seq ?_ | refine s_pass rfl rfl rfl ?_ | refine s_len tabOk rfl rfl rfl rfl ?_ | refine aw_true rfl ?_ | refine aw_false rfl ?_ | refine blk_exit_other rfl ?_ | refine s_arith tabOk rfl rfl rfl rfl (by simp only [InR]; omega) ?_ | ((first | ((fail_if_success refine s_told rfl rfl ?_); refine s_part rfl rfl rfl ?_ ?_) | refine aw_if rfl ?_ ?_) <;> intro hc <;> (first | replace hc := DecT.imp hc | simp only [decs] at hc | skip)) | refine s_index1n tabOk rfl rfl rfl rfl (by omega) ?_ | refine s_indexn tabOk rfl rfl rfl rfl (by omega) ?_ | refine s_index1 tabOk rfl rfl rfl rfl (by omega) (by omega) ?_ | refine sh_load tabOk (by assumption) rfl rfl rfl rfl (by repeat (first | exact List.Mem.head _ | apply List.Mem.tail)) (by rfl) (by rfl) ?_ | refine sh_loada tabOk (by assumption) rfl rfl rfl rfl (by repeat (first | exact List.Mem.head _ | apply List.Mem.tail)) (by rfl) ?_ | (refine sh_box (by assumption) rfl rfl rfl rfl rfl rfl ?_; intro _ _ _) | (refine sh_alloc tabOk (by assumption) rfl rfl rfl rfl rfl rfl ?_; intro _ _ _) | (refine sh_store tabOk (by assumption) rfl rfl rfl rfl rfl rfl (by repeat (first | exact Upd.here | apply Upd.there)) (by rfl) ?_; intro _ _) | (refine sh_lit tabOk (by assumption) rfl rfl rfl rfl rfl rfl rfl rfl rfl rfl rfl ?_; intro _ _ _) | refine sh_build tabOk rfl rfl rfl rfl rfl rfl ?_)
    exact rndh_next (i + 1, a7, c7) (by dsimp only; omega) (by dsimp only; omega) (by dsimp only; exact (by repeat (first | exact less_nil | refine less_cons rfl ?_))) (Hp.picks (by assumption) (by repeat (first | exact Picks.nil | (apply Picks.cons; (repeat (first | exact Pick.here | apply Pick.there))))))
  · obtain rfl : i = xs.length := by omega
    obtain ⟨b3, rfl⟩ := H3.row_ptr (n := xs.length) (sz := 1) (c := cp) (a := ad) (by repeat (first | exact List.Mem.head _ | apply List.Mem.tail)) (by omega)
    have hC : CmpOk B W b3 xs.length cp [.blk b1 [.slice (some ⟨ba, off, none⟩) xs.length c] 22] 88 ⟨b1, 0, none⟩ (gtP xs) (xs.length : Int) := by
      intro W' ys H x y hx hy
      have hv' := Hp.slFA H hv
      obtain ⟨_, _, e, hr⟩ := hv'.read (by omega)
      cases e
      exact c_ranked_1 (H.ok _ (List.Mem.tail _ (List.Mem.head _))) hr rfl hx hy
    repeat' (first | refine s_pure tabOk rfl rfl rfl rfl ?_ | refine Stp.imp ?_ | refine aops_nil ?_ | refine aw_reg ?_ | refine aw_seq ?_ | refine s_pass rfl rfl rfl ?_ | refine s_len tabOk rfl rfl rfl rfl ?_ | refine aw_true rfl ?_ | refine aw_false rfl ?_ | refine blk_exit_other rfl ?_ | refine s_arith tabOk rfl rfl rfl rfl (by simp only [InR]; omega) ?_ | ((first | ((fail_if_success refine s_told rfl rfl ?_); refine s_part rfl rfl rfl ?_ ?_) | refine aw_if rfl ?_ ?_) <;> intro hc <;> (first | replace hc := DecT.imp hc | simp only [decs] at hc | skip)) | refine s_index1n tabOk rfl rfl rfl rfl (by omega) ?_ | refine s_indexn tabOk rfl rfl rfl rfl (by omega) ?_ | refine s_index1 tabOk rfl rfl rfl rfl (by omega) (by omega) ?_ | refine sh_load tabOk (by assumption) rfl rfl rfl rfl (by repeat (first | exact List.Mem.head _ | apply List.Mem.tail)) (by rfl) (by rfl) ?_ | refine sh_loada tabOk (by assumption) rfl rfl rfl rfl (by repeat (first | exact List.Mem.head _ | apply List.Mem.tail)) (by rfl) ?_ | (refine sh_box (by assumption) rfl rfl rfl rfl rfl rfl ?_; intro _ _ _) | (refine sh_alloc tabOk (by assumption) rfl rfl rfl rfl rfl rfl ?_; intro _ _ _) | (refine sh_store tabOk (by assumption) rfl rfl rfl rfl rfl rfl (by repeat (first | exact Upd.here | apply Upd.there)) (by rfl) ?_; intro _ _) | (refine sh_lit tabOk (by assumption) rfl rfl rfl rfl rfl rfl rfl rfl rfl rfl rfl ?_; intro _ _ _) | refine sh_build tabOk rfl rfl rfl rfl rfl rfl ?_)
    all_goals try (exfalso; omega)
    refine s_call rfl rfl rfl rfl ent87 (c_SortStable ent88 hC ho (by omega) (Hp.picks H3 (by repeat (first | exact Picks.nil | (apply Picks.cons; (repeat (first | exact Pick.here | apply Pick.there))))))) ?_
    rintro _ W5 ⟨zs, h1, h2, H5⟩
    obtain rfl := rkL_eq ho h1 h2
    repeat' (first | refine s_pure tabOk rfl rfl rfl rfl ?_ | refine Stp.imp ?_ | refine aops_nil ?_ | refine aw_reg ?_ | refine aw_seq ?_ | refine s_pass rfl rfl rfl ?_ | refine s_len tabOk rfl rfl rfl rfl ?_ | refine aw_true rfl ?_ | refine aw_false rfl ?_ | refine blk_exit_other rfl ?_ | refine s_arith tabOk rfl rfl rfl rfl (by simp only [InR]; omega) ?_ | ((first | ((fail_if_success refine s_told rfl rfl ?_); refine s_part rfl rfl rfl ?_ ?_) | refine aw_if rfl ?_ ?_) <;> intro hc <;> (first | replace hc := DecT.imp hc | simp only [decs] at hc | skip)) | refine s_index1n tabOk rfl rfl rfl rfl (by omega) ?_ | refine s_indexn tabOk rfl rfl rfl rfl (by omega) ?_ | refine s_index1 tabOk rfl rfl rfl rfl (by omega) (by omega) ?_ | refine sh_load tabOk (by assumption) rfl rfl rfl rfl (by repeat (first | exact List.Mem.head _ | apply List.Mem.tail)) (by rfl) (by rfl) ?_ | refine sh_loada tabOk (by assumption) rfl rfl rfl rfl (by repeat (first | exact List.Mem.head _ | apply List.Mem.tail)) (by rfl) ?_ | (refine sh_box (by assumption) rfl rfl rfl rfl rfl rfl ?_; intro _ _ _) | (refine sh_alloc tabOk (by assumption) rfl rfl rfl rfl rfl rfl ?_; intro _ _ _) | (refine sh_store tabOk (by assumption) rfl rfl rfl rfl rfl rfl (by repeat (first | exact Upd.here | apply Upd.there)) (by rfl) ?_; intro _ _) | (refine sh_lit tabOk (by assumption) rfl rfl rfl rfl rfl rfl rfl rfl rfl rfl rfl ?_; intro _ _ _) | refine sh_build tabOk rfl rfl rfl rfl rfl rfl ?_)
    refine retK_ret tabOk (congrArg Array.toList Try.results51) (by repeat (first | exact rv_nil | apply rv_tmp rfl rfl | apply rv_cellH (by assumption) rfl rfl rfl (by repeat (first | exact List.Mem.head _ | apply List.Mem.tail)) rfl)) ?_
    exact ⟨b3, cp, rfl, Hp.picks H5 (by repeat (first | exact Picks.nil | (apply Picks.cons; (repeat (first | exact Pick.here | apply Pick.there)))))⟩
end
end Go.Proofs.Ytmplincflbhmiaa
