/- FnExactFloodOf gives true whatever the input. No condition. -/
import Derived.Test.YtaiebodmlnpbkaaRows
import Derived.Test.YtaiebodmlnpbkaaGr
import Derived.Test.YtaiebodmlnpbkaaLx
namespace Go.Proofs.Ytaiebodmlnpbkaa
set_option linter.unusedSimpArgs false
set_option linter.unusedVariables false
open Go Cn Go.ChangeShapes Go.WideShapes Go.ChangeAt Go.RowKit
theorem c_laws_FnExactFloodOf {W : World} {p s y : Nat} (hp : cb .f32 p = p) (hs : cb .f32 s = s) (hy : cb .f32 y = y) : ACalls Try.prog W.heap.size 6 [.float .f32 p, .float .f32 s, .float .f32 y] W (fun r W' => r = .bool true ∧ Below W.heap.size W W') := by
  refine acalls_of Try.func6 rfl Try.ntmps6 (Nat.le_of_ble_eq_true rfl) ?_
  repeat' (first
      | refine s_pure tabOk rfl rfl rfl rfl ?_
      | refine aops_nil ?_
      | refine thn_normal ?_
      | refine aw_seq ?_
      | refine aw_reg ?_
      | refine s_pass rfl rfl rfl ?_
      | refine s_len tabOk rfl rfl rfl rfl ?_
      | refine aw_true rfl ?_
      | refine aw_false rfl ?_
      | refine aw_block ?_
      | refine aw_skip ?_
      | refine aw_exit ?_
      | refine blk_exit ?_
      | refine blk_exit_other rfl ?_
      | refine blk_normal ?_
      | refine thn_exit ?_
      | refine thn_ret ?_
      | refine blk_ret ?_
      | refine rnd_ret ?_
      | refine rnd_exit ?_
      | refine aw_ret ?_
      | refine s_arith tabOk rfl rfl rfl rfl (by simp only [InR]; omega) ?_
      | ((fail_if_success refine s_told rfl rfl ?_); refine s_part rfl rfl rfl ?_ ?_ <;> intro hc <;> (first | replace hc := of_decide_eq_true hc | replace hc := of_decide_eq_false hc | replace hc := eq_of_beq hc | skip))
      | (refine aw_if rfl ?_ ?_ <;> intro hc <;> (first | replace hc := of_decide_eq_true hc | replace hc := of_decide_eq_false hc | replace hc := eq_of_beq hc | skip))
      | refine s_index1 tabOk rfl rfl rfl rfl (by omega) (by omega) ?_)
  refine s_call rfl rfl rfl rfl ent24 (c_spec_FloodOf _ _ _) ?_
  rintro _ W9 ⟨rfl, e9⟩
  obtain rfl := e9.symm
  repeat' (first
      | refine s_pure tabOk rfl rfl rfl rfl ?_
      | refine aops_nil ?_
      | refine thn_normal ?_
      | refine aw_seq ?_
      | refine aw_reg ?_
      | refine s_pass rfl rfl rfl ?_
      | refine s_len tabOk rfl rfl rfl rfl ?_
      | refine aw_true rfl ?_
      | refine aw_false rfl ?_
      | refine aw_block ?_
      | refine aw_skip ?_
      | refine aw_exit ?_
      | refine blk_exit ?_
      | refine blk_exit_other rfl ?_
      | refine blk_normal ?_
      | refine thn_exit ?_
      | refine thn_ret ?_
      | refine blk_ret ?_
      | refine rnd_ret ?_
      | refine rnd_exit ?_
      | refine aw_ret ?_
      | refine s_arith tabOk rfl rfl rfl rfl (by simp only [InR]; omega) ?_
      | ((fail_if_success refine s_told rfl rfl ?_); refine s_part rfl rfl rfl ?_ ?_ <;> intro hc <;> (first | replace hc := of_decide_eq_true hc | replace hc := of_decide_eq_false hc | replace hc := eq_of_beq hc | skip))
      | (refine aw_if rfl ?_ ?_ <;> intro hc <;> (first | replace hc := of_decide_eq_true hc | replace hc := of_decide_eq_false hc | replace hc := eq_of_beq hc | skip))
      | refine s_index1 tabOk rfl rfl rfl rfl (by omega) (by omega) ?_)
  refine s_call rfl rfl rfl rfl ent25 (c_impl_FloodOf (Nat.le_refl _)) ?_
  rintro _ W1 ⟨rfl, g1⟩
  repeat' (first
      | refine s_pure tabOk rfl rfl rfl rfl ?_
      | refine aops_nil ?_
      | refine thn_normal ?_
      | refine aw_seq ?_
      | refine aw_reg ?_
      | refine s_pass rfl rfl rfl ?_
      | refine s_len tabOk rfl rfl rfl rfl ?_
      | refine aw_true rfl ?_
      | refine aw_false rfl ?_
      | refine aw_block ?_
      | refine aw_skip ?_
      | refine aw_exit ?_
      | refine blk_exit ?_
      | refine blk_exit_other rfl ?_
      | refine blk_normal ?_
      | refine thn_exit ?_
      | refine thn_ret ?_
      | refine blk_ret ?_
      | refine rnd_ret ?_
      | refine rnd_exit ?_
      | refine aw_ret ?_
      | refine s_arith tabOk rfl rfl rfl rfl (by simp only [InR]; omega) ?_
      | ((fail_if_success refine s_told rfl rfl ?_); refine s_part rfl rfl rfl ?_ ?_ <;> intro hc <;> (first | replace hc := of_decide_eq_true hc | replace hc := of_decide_eq_false hc | replace hc := eq_of_beq hc | skip))
      | (refine aw_if rfl ?_ ?_ <;> intro hc <;> (first | replace hc := of_decide_eq_true hc | replace hc := of_decide_eq_false hc | replace hc := eq_of_beq hc | skip))
      | refine s_index1 tabOk rfl rfl rfl rfl (by omega) (by omega) ?_)
  refine s_call rfl rfl rfl rfl ent21 (c_laws_sameFloat ) ?_
  rintro _ W9 ⟨rfl, e9⟩
  obtain rfl := e9.symm
  repeat' (first
      | refine s_pure tabOk rfl rfl rfl rfl ?_
      | refine aops_nil ?_
      | refine thn_normal ?_
      | refine aw_seq ?_
      | refine aw_reg ?_
      | refine s_pass rfl rfl rfl ?_
      | refine s_len tabOk rfl rfl rfl rfl ?_
      | refine aw_true rfl ?_
      | refine aw_false rfl ?_
      | refine aw_block ?_
      | refine aw_skip ?_
      | refine aw_exit ?_
      | refine blk_exit ?_
      | refine blk_exit_other rfl ?_
      | refine blk_normal ?_
      | refine thn_exit ?_
      | refine thn_ret ?_
      | refine blk_ret ?_
      | refine rnd_ret ?_
      | refine rnd_exit ?_
      | refine aw_ret ?_
      | refine s_arith tabOk rfl rfl rfl rfl (by simp only [InR]; omega) ?_
      | ((fail_if_success refine s_told rfl rfl ?_); refine s_part rfl rfl rfl ?_ ?_ <;> intro hc <;> (first | replace hc := of_decide_eq_true hc | replace hc := of_decide_eq_false hc | replace hc := eq_of_beq hc | skip))
      | (refine aw_if rfl ?_ ?_ <;> intro hc <;> (first | replace hc := of_decide_eq_true hc | replace hc := of_decide_eq_false hc | replace hc := eq_of_beq hc | skip))
      | refine s_index1 tabOk rfl rfl rfl rfl (by omega) (by omega) ?_)
  all_goals try (exfalso; simp at hc; done)
  exact retK_ret tabOk (congrArg Array.toList Try.results6) (rv_tmp rfl rfl rv_nil) ⟨rfl, g1.below⟩
set_option maxRecDepth 100000 in
theorem law_FnExactFloodOf {H : Type} {enc : TypeId × Value → H} {W : World} {base : Nat} {v0 v1 v2 : Value} {d0 d1 d2 : DataW H} {p0 p1 p2 : List MemPlace} (k0 : Value.okWide Try.prog W .any base 33 v0) (h0 : DataW.Trod enc Try.prog W 0 (fun _ => true) true 33 v0 d0 p0) (k1 : Value.okWide Try.prog W .any base 33 v1) (h1 : DataW.Trod enc Try.prog W 0 (fun _ => true) true 33 v1 d1 p1) (k2 : Value.okWide Try.prog W .any base 33 v2) (h2 : DataW.Trod enc Try.prog W 0 (fun _ => true) true 33 v2 d2 p2) :
    ACalls Try.prog W.heap.size 6 [cv v0, cv v1, cv v2] (cw W.heap.size W) (fun r W1 => r = .bool true ∧ Below W.heap.size (cw W.heap.size W) W1) := by
  obtain ⟨n0, rfl⟩ := open_f32 Try.underlying33 k0
  obtain ⟨n1, rfl⟩ := open_f32 Try.underlying33 k1
  obtain ⟨n2, rfl⟩ := open_f32 Try.underlying33 k2
  have := c_laws_FnExactFloodOf (W := cw W.heap.size W) (cb_cb .f32 n0) (cb_cb .f32 n1) (cb_cb .f32 n2)
  rw [cw_size] at this
  exact this
set_option maxRecDepth 100000 in
theorem lifted_FnExactFloodOf (os : Os) (started : os.Started) (H : Type) (enc : TypeId × Value → H) :
    ReturnsInHanded {} Try.checked os 6 .any (Rows.fnExactFloodOfSpec.pre6 enc Try.prog Try.f6 Rows.fnExactFloodOfRow.domain false) (Rows.fnExactFloodOfSpec.post enc Try.prog Try.f6 false true false false) := by
  refine returnsInHanded_of_change_sized (C := Try.checked) own started (by kernel_rfl) Try.func6 (ChangeSpec.witness6 (enc := enc) (C := Try.checked) false ⟨#[], #[.float .f32 0, .float .f32 0, .float .f32 0], []⟩ 8 (by kernel_rfl) (by kernel_rfl) (by kernel_rfl) (by kernel_rfl)) ?_
  intro W base args ds gs before hval0 hW hcnd hsz0 _
  have hval : ∀ (j : Nat) t v, Try.f6.params[j]? = some t → args[j]? = some v → Value.okWide Try.prog W .any base t v := hval0
  have hW' := hW
  obtain ⟨p, q, hA0, hV, rfl, hfz, hnd⟩ := hW
  have hA : DataW.TrodAll enc Try.prog W 0 (fun _ => true) true Try.f6.params.toList args.toList ds p := hA0
  rw [Try.params6] at hA hval
  have hA1 := hA
  obtain ⟨v0, vs0, d0, ds0, p0, q0, hargs, rfl, rfl, h0, r0⟩ := trodAll_cons hA
  obtain ⟨v1, vs1, d1, ds1, p1, q1, rfl, rfl, rfl, h1, r1⟩ := trodAll_cons r0
  obtain ⟨v2, vs2, d2, ds2, p2, q2, rfl, rfl, rfl, h2, r2⟩ := trodAll_cons r1
  obtain ⟨rfl, rfl, rfl⟩ := trodAll_nil r2
  obtain rfl : args = #[v0, v1, v2] := by cases args; simp_all
  obtain ⟨rfl, rfl⟩ := trodVars_none hV
  refine (acalls_elim (law_FnExactFloodOf (hval 0 _ v0 rfl rfl) h0 (hval 1 _ v1 rfl rfl) h1 (hval 2 _ v2 rfl rfl) h2) _ W rfl rfl (Nat.le_refl _)).mono fun e W1 hh => ?_
  obtain ⟨u, he, -, hu, hb⟩ := hh
  have hu' : u = .bool true := cv_bool_inv hu
  subst hu'; subst he
  have bel := below_back hb
  exact ⟨_, rfl, _, _, _, [], _, [], hW', trodAll_mk1 (shut_bool Try.underlying4 _), trodAll_stays laidOut bel _ _ _ _ (by kernel_rfl) hA1, rfl, bel.frame _, fun h => by cases h⟩
theorem over_FnExactFloodOf : Rows.fnExactFloodOfRow.holds Try.pinned (OpenSpec.ofChange Rows.fnExactFloodOfSpec) :=
  OpenClaim.holds_of_wide 6 Try.f6 rfl rfl rfl rfl rfl rfl rfl ⟨rfl, rfl, rfl, rfl, rfl⟩ rfl rfl rfl rfl rfl (by kernel_rfl) Try.func6 (by kernel_rfl) (of_decide_eq_true (by kernel_rfl)) (by unfold Func.isWrapper; first | (rw [if_pos (by decide +kernel)]; kernel_rfl) | (rw [if_neg (by decide +kernel)]; exact ⟨rfl, rfl⟩)) (fun os started H enc _ => lifted_FnExactFloodOf os started H enc)
theorem holds_FnExactFloodOf : Rows.FnExactFloodOfSaid := over_FnExactFloodOf
end Go.Proofs.Ytaiebodmlnpbkaa
