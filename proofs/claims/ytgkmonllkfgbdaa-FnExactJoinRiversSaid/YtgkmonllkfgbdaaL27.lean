/- FnExactJoinRivers gives true whatever the input, and its arguments read as they did. No condition. -/
import Derived.Test.YtgkmonllkfgbdaaRows
import Derived.Test.YtgkmonllkfgbdaaRg
namespace Go.Proofs.Ytgkmonllkfgbdaa
set_option linter.unusedSimpArgs false
set_option linter.unusedVariables false
open Go Cn Go.ChangeShapes Go.WideShapes Go.ChangeAt Go.RowKit
set_option maxHeartbeats 4000000 in
theorem c_laws_FnExactJoinRivers {W : World} {v0 v1 : Value} {r s : Riv} (hv0 : RivA W v0 r) (hf0 : r.fits) (hv1 : RivA W v1 s) (hf1 : s.fits) (q : Int) :
    ACalls Try.prog W.heap.size 3 [v0, v1, .int .i64 q] W (fun u W' => u = .bool true ∧ Below W.heap.size W W') := by
  have hw0 := hv0
  have hw1 := hv1
  obtain ⟨p1, k1, p2, k2, p3, k3, rfl, -⟩ := hw0
  obtain ⟨p4, k4, p5, k5, p6, k6, rfl, -⟩ := hw1
  have H0 : Hp W.heap.size W W [] := Hp.new (Nat.le_refl _)
  refine acalls_of Try.func3 rfl Try.ntmps3 (Nat.le_of_ble_eq_true rfl) ?_
  repeat' (first
      | refine s_pure tabOk rfl rfl rfl rfl ?_
      | refine aops_nil ?_
      | refine thn_normal ?_
      | refine aw_seq ?_
      | refine aw_regk 19 rfl ?_
      | refine s_pass rfl rfl rfl ?_
      | refine s_len tabOk rfl rfl rfl rfl ?_
      | refine aw_true rfl ?_
      | refine aw_false rfl ?_
      | refine aw_block ?_
      | refine aw_skip ?_
      | refine aw_exit ?_
      | refine blk_exit ?_
      | refine blk_exit_other rfl ?_
      | refine blk_normal ?_
      | refine thn_exit ?_
      | refine thn_ret ?_
      | refine blk_ret ?_
      | refine rnd_ret ?_
      | refine rnd_exit ?_
      | refine aw_ret ?_
      | refine s_arith tabOk rfl rfl rfl rfl (by simp only [InR]; omega) ?_
      | ((fail_if_success refine s_told rfl rfl ?_); refine s_part rfl rfl rfl ?_ ?_ <;> intro hc <;> (first | replace hc := of_decide_eq_true hc | replace hc := of_decide_eq_false hc | replace hc := eq_of_beq hc | simp only [Bool.not_eq_true', Bool.not_eq_false', Bool.and_eq_true, Bool.or_eq_true, Bool.or_eq_false_iff, Bool.not_true, Bool.not_false, decide_eq_true_eq, decide_eq_false_iff_not, Bool.and_eq_false_imp, bne_iff_ne, ne_eq, beq_iff_eq, beq_eq_false_iff_ne, bne_eq_false_iff_eq, bne_self_eq_false, not_true_eq_false, eq_self, Bool.true_eq_false, Bool.false_eq_true] at hc | skip))
      | (refine aw_if rfl ?_ ?_ <;> intro hc <;> (first | replace hc := of_decide_eq_true hc | replace hc := of_decide_eq_false hc | replace hc := eq_of_beq hc | simp only [Bool.not_eq_true', Bool.not_eq_false', Bool.and_eq_true, Bool.or_eq_true, Bool.or_eq_false_iff, Bool.not_true, Bool.not_false, decide_eq_true_eq, decide_eq_false_iff_not, Bool.and_eq_false_imp, bne_iff_ne, ne_eq, beq_iff_eq, beq_eq_false_iff_ne, bne_eq_false_iff_eq, bne_self_eq_false, not_true_eq_false, eq_self, Bool.true_eq_false, Bool.false_eq_true] at hc | skip))
      | refine s_index1n tabOk rfl rfl rfl rfl (by omega) ?_
      | refine s_indexn tabOk rfl rfl rfl rfl (by omega) ?_
      | refine s_index1 tabOk rfl rfl rfl rfl (by omega) (by omega) ?_
      | refine sh_load tabOk (by assumption) rfl rfl rfl rfl (by repeat (first | exact List.Mem.head _ | apply List.Mem.tail)) (by rfl) (by rfl) ?_
      | refine sh_loada tabOk (by assumption) rfl rfl rfl rfl (by repeat (first | exact List.Mem.head _ | apply List.Mem.tail)) (by rfl) ?_
      | (refine sh_box (by assumption) rfl rfl rfl rfl rfl rfl ?_; intro _ _ _)
      | (refine sh_alloc tabOk (by assumption) rfl rfl rfl rfl rfl rfl ?_; intro _ _ _)
      | (refine sh_store tabOk (by assumption) rfl rfl rfl rfl rfl rfl (by repeat (first | exact Upd.here | apply Upd.there)) (by rfl) ?_; intro _ _)
      | (refine sh_lit tabOk (by assumption) rfl rfl rfl rfl rfl rfl rfl rfl rfl rfl rfl ?_; intro _ _ _)
      | refine sh_build tabOk rfl rfl rfl rfl rfl rfl ?_
      | refine rndh_ret ?_
      | refine rndh_exit ?_)
  rename_i bA WA HA bB WB HB
  refine s_call rfl rfl rfl rfl ent11 (hx_szRiver (by assumption) hv0 hf0 (by decide) (by decide)) ?_
  rintro _ W1 ⟨rfl, H1⟩
  repeat' (first
      | refine s_pure tabOk rfl rfl rfl rfl ?_
      | refine aops_nil ?_
      | refine thn_normal ?_
      | refine aw_seq ?_
      | refine aw_regk 19 rfl ?_
      | refine s_pass rfl rfl rfl ?_
      | refine s_len tabOk rfl rfl rfl rfl ?_
      | refine aw_true rfl ?_
      | refine aw_false rfl ?_
      | refine aw_block ?_
      | refine aw_skip ?_
      | refine aw_exit ?_
      | refine blk_exit ?_
      | refine blk_exit_other rfl ?_
      | refine blk_normal ?_
      | refine thn_exit ?_
      | refine thn_ret ?_
      | refine blk_ret ?_
      | refine rnd_ret ?_
      | refine rnd_exit ?_
      | refine aw_ret ?_
      | refine s_arith tabOk rfl rfl rfl rfl (by simp only [InR]; omega) ?_
      | ((fail_if_success refine s_told rfl rfl ?_); refine s_part rfl rfl rfl ?_ ?_ <;> intro hc <;> (first | replace hc := of_decide_eq_true hc | replace hc := of_decide_eq_false hc | replace hc := eq_of_beq hc | simp only [Bool.not_eq_true', Bool.not_eq_false', Bool.and_eq_true, Bool.or_eq_true, Bool.or_eq_false_iff, Bool.not_true, Bool.not_false, decide_eq_true_eq, decide_eq_false_iff_not, Bool.and_eq_false_imp, bne_iff_ne, ne_eq, beq_iff_eq, beq_eq_false_iff_ne, bne_eq_false_iff_eq, bne_self_eq_false, not_true_eq_false, eq_self, Bool.true_eq_false, Bool.false_eq_true] at hc | skip))
      | (refine aw_if rfl ?_ ?_ <;> intro hc <;> (first | replace hc := of_decide_eq_true hc | replace hc := of_decide_eq_false hc | replace hc := eq_of_beq hc | simp only [Bool.not_eq_true', Bool.not_eq_false', Bool.and_eq_true, Bool.or_eq_true, Bool.or_eq_false_iff, Bool.not_true, Bool.not_false, decide_eq_true_eq, decide_eq_false_iff_not, Bool.and_eq_false_imp, bne_iff_ne, ne_eq, beq_iff_eq, beq_eq_false_iff_ne, bne_eq_false_iff_eq, bne_self_eq_false, not_true_eq_false, eq_self, Bool.true_eq_false, Bool.false_eq_true] at hc | skip))
      | refine s_index1n tabOk rfl rfl rfl rfl (by omega) ?_
      | refine s_indexn tabOk rfl rfl rfl rfl (by omega) ?_
      | refine s_index1 tabOk rfl rfl rfl rfl (by omega) (by omega) ?_
      | refine sh_load tabOk (by assumption) rfl rfl rfl rfl (by repeat (first | exact List.Mem.head _ | apply List.Mem.tail)) (by rfl) (by rfl) ?_
      | refine sh_loada tabOk (by assumption) rfl rfl rfl rfl (by repeat (first | exact List.Mem.head _ | apply List.Mem.tail)) (by rfl) ?_
      | (refine sh_box (by assumption) rfl rfl rfl rfl rfl rfl ?_; intro _ _ _)
      | (refine sh_alloc tabOk (by assumption) rfl rfl rfl rfl rfl rfl ?_; intro _ _ _)
      | (refine sh_store tabOk (by assumption) rfl rfl rfl rfl rfl rfl (by repeat (first | exact Upd.here | apply Upd.there)) (by rfl) ?_; intro _ _)
      | (refine sh_lit tabOk (by assumption) rfl rfl rfl rfl rfl rfl rfl rfl rfl rfl rfl ?_; intro _ _ _)
      | refine sh_build tabOk rfl rfl rfl rfl rfl rfl ?_
      | refine rndh_ret ?_
      | refine rndh_exit ?_)
  · refine retK_ret tabOk (congrArg Array.toList Try.results3) (by repeat (first | exact rv_nil | apply rv_tmp rfl rfl | apply rv_cellH (by assumption) rfl rfl rfl (by repeat (first | exact List.Mem.head _ | apply List.Mem.tail)) rfl)) ?_
    exact ⟨rfl, Hp.below (by assumption)⟩
  obtain ⟨hs0, z0, z1⟩ := szRv_fits (by decide) hc
  clear hc
  refine s_call rfl rfl rfl rfl ent11 (hx_szRiver (by assumption) hv1 hf1 z0 z1) ?_
  rintro _ W2 ⟨rfl, H2⟩
  repeat' (first
      | refine s_pure tabOk rfl rfl rfl rfl ?_
      | refine aops_nil ?_
      | refine thn_normal ?_
      | refine aw_seq ?_
      | refine aw_regk 19 rfl ?_
      | refine s_pass rfl rfl rfl ?_
      | refine s_len tabOk rfl rfl rfl rfl ?_
      | refine aw_true rfl ?_
      | refine aw_false rfl ?_
      | refine aw_block ?_
      | refine aw_skip ?_
      | refine aw_exit ?_
      | refine blk_exit ?_
      | refine blk_exit_other rfl ?_
      | refine blk_normal ?_
      | refine thn_exit ?_
      | refine thn_ret ?_
      | refine blk_ret ?_
      | refine rnd_ret ?_
      | refine rnd_exit ?_
      | refine aw_ret ?_
      | refine s_arith tabOk rfl rfl rfl rfl (by simp only [InR]; omega) ?_
      | ((fail_if_success refine s_told rfl rfl ?_); refine s_part rfl rfl rfl ?_ ?_ <;> intro hc <;> (first | replace hc := of_decide_eq_true hc | replace hc := of_decide_eq_false hc | replace hc := eq_of_beq hc | simp only [Bool.not_eq_true', Bool.not_eq_false', Bool.and_eq_true, Bool.or_eq_true, Bool.or_eq_false_iff, Bool.not_true, Bool.not_false, decide_eq_true_eq, decide_eq_false_iff_not, Bool.and_eq_false_imp, bne_iff_ne, ne_eq, beq_iff_eq, beq_eq_false_iff_ne, bne_eq_false_iff_eq, bne_self_eq_false, not_true_eq_false, eq_self, Bool.true_eq_false, Bool.false_eq_true] at hc | skip))
      | (refine aw_if rfl ?_ ?_ <;> intro hc <;> (first | replace hc := of_decide_eq_true hc | replace hc := of_decide_eq_false hc | replace hc := eq_of_beq hc | simp only [Bool.not_eq_true', Bool.not_eq_false', Bool.and_eq_true, Bool.or_eq_true, Bool.or_eq_false_iff, Bool.not_true, Bool.not_false, decide_eq_true_eq, decide_eq_false_iff_not, Bool.and_eq_false_imp, bne_iff_ne, ne_eq, beq_iff_eq, beq_eq_false_iff_ne, bne_eq_false_iff_eq, bne_self_eq_false, not_true_eq_false, eq_self, Bool.true_eq_false, Bool.false_eq_true] at hc | skip))
      | refine s_index1n tabOk rfl rfl rfl rfl (by omega) ?_
      | refine s_indexn tabOk rfl rfl rfl rfl (by omega) ?_
      | refine s_index1 tabOk rfl rfl rfl rfl (by omega) (by omega) ?_
      | refine sh_load tabOk (by assumption) rfl rfl rfl rfl (by repeat (first | exact List.Mem.head _ | apply List.Mem.tail)) (by rfl) (by rfl) ?_
      | refine sh_loada tabOk (by assumption) rfl rfl rfl rfl (by repeat (first | exact List.Mem.head _ | apply List.Mem.tail)) (by rfl) ?_
      | (refine sh_box (by assumption) rfl rfl rfl rfl rfl rfl ?_; intro _ _ _)
      | (refine sh_alloc tabOk (by assumption) rfl rfl rfl rfl rfl rfl ?_; intro _ _ _)
      | (refine sh_store tabOk (by assumption) rfl rfl rfl rfl rfl rfl (by repeat (first | exact Upd.here | apply Upd.there)) (by rfl) ?_; intro _ _)
      | (refine sh_lit tabOk (by assumption) rfl rfl rfl rfl rfl rfl rfl rfl rfl rfl rfl ?_; intro _ _ _)
      | refine sh_build tabOk rfl rfl rfl rfl rfl rfl ?_
      | refine rndh_ret ?_
      | refine rndh_exit ?_)
  · refine retK_ret tabOk (congrArg Array.toList Try.results3) (by repeat (first | exact rv_nil | apply rv_tmp rfl rfl | apply rv_cellH (by assumption) rfl rfl rfl (by repeat (first | exact List.Mem.head _ | apply List.Mem.tail)) rfl)) ?_
    exact ⟨rfl, Hp.below (by assumption)⟩
  obtain ⟨hs1, z2, z3⟩ := szRv_fits z1 hc
  generalize szRv (szRv 1048576 r) s = left2 at *
  clear hc z0 z1 z2 z3
  have hz : (joinV r s q).small := by
    unfold joinV joinR
    obtain ⟨a1, a2, a3⟩ := hs0
    obtain ⟨b1, b2, b3⟩ := hs1
    split
    · rename_i h
      simp only [joinOk, Bool.and_eq_true, decide_eq_true_eq] at h
      have l1 := rvOk_len h.1.1.1
      have l2 := rvOk_len h.1.2
      have l3 := joinTo_len (r := r) (s := s) (q := q) (Nat.le_refl _)
      exact ⟨by dsimp only; omega, by simp; omega, by simp; omega⟩
    · exact ⟨by simp [rv0], by simp [rv0], by simp [rv0]⟩
  have impl : ∀ {W5 : World} {L : List Res} {p1 p2 p3 p4 p5 p6 : Option Addr} {k1 k2 k3 k4 k5 k6 : Nat} (H : Hp W.heap.size W W5 L), RvS W5 p1 k1 p2 k2 p3 k3 r → RvS W5 p4 k4 p5 k5 p6 k6 s → ACalls Try.prog W.heap.size 14 [rvV p1 k1 p2 k2 p3 k3 r, rvV p4 k4 p5 k5 p6 k6 s, .int .i64 q] W5 (fun v W' => JoinH W.heap.size W5 W' v r s q) :=
    fun H h1 h2 => c_impl_JoinRivers H.size h1 hs0 h2 hs1 q
  refine aw_cut (A := W) (fun x : Option Addr × Nat × Option Addr × Nat × Option Addr × Nat × Nat => [(2, .int .i64 q), (3, .pointer (some ⟨bA, 0, none⟩)), (4, .pointer (some ⟨bB, 0, none⟩)), (6, .bool false), (8, .pointer (some ⟨x.2.2.2.2.2.2, 0, none⟩)), (9, .bool (joinOk r s q))])
    (fun x => [.row 2 1 (.slice x.1 (joinV r s q).ds.length x.2.1) (joinV r s q).ds.length (iC (joinV r s q).ds), .row 75 4 (.slice x.2.2.1 (joinV r s q).dm.length x.2.2.2.1) (joinV r s q).dm.length (dCs (joinV r s q).dm), .row 2 1 (.slice x.2.2.2.2.1 (joinV r s q).ws.length x.2.2.2.2.2.1) (joinV r s q).ws.length (iC (joinV r s q).ws), .blk x.2.2.2.2.2.2 [.slice x.1 (joinV r s q).ds.length x.2.1, .slice x.2.2.1 (joinV r s q).dm.length x.2.2.2.1, .slice x.2.2.2.2.1 (joinV r s q).ws.length x.2.2.2.2.2.1] 29, .blk bA (rvC p1 k1 p2 k2 p3 k3 r) 25, .blk bB (rvC p4 k4 p5 k5 p6 k6 s) 25]) ?_ ?_
  · refine aw_trim 19 rfl ?_
    refine aw_told followsMixed (DH _ _ _) [0, 2, 4, 1, 9, 3, 5, 6, 7, 8, 10, 11] (by kernel_rfl) H2 ?_
    repeat (first
      | refine so_pure tabOk lax_mid rfl rfl rfl rfl (by kernel_rfl) ?_
      | refine so_load' tabOk lax_mid rfl rfl rfl rfl (by repeat (first | exact List.Mem.head _ | apply List.Mem.tail)) (by rfl) (by rfl) (by kernel_rfl) ?_
      | refine so_loada' tabOk lax_mid rfl rfl rfl rfl (by repeat (first | exact List.Mem.head _ | apply List.Mem.tail)) (by rfl) (by kernel_rfl) ?_
      | refine so_len tabOk lax_mid rfl rfl rfl rfl (by kernel_rfl) ?_
      | refine so_build' tabOk lax_mid rfl rfl rfl rfl rfl rfl (by kernel_rfl) ?_
      | refine so_index1n tabOk lax_mid rfl rfl rfl rfl (by omega) (by kernel_rfl) ?_
      | refine so_indexn tabOk lax_mid rfl rfl rfl rfl (by omega) (by kernel_rfl) ?_
      | refine so_index1 tabOk lax_mid rfl rfl rfl rfl (by omega) (by omega) (by kernel_rfl) ?_
      | refine so_pass lax_mid rfl rfl rfl (by kernel_rfl) ?_
      | refine so_arith tabOk lax_mid rfl rfl rfl rfl (by simp only [InR]; omega) (by kernel_rfl) ?_)
    refine so_all [1, 9] (by kernel_rfl) (x_one ?_ (x_one ?_ x_none))
    · refine th_call [3, 9, 5, 6, 7, 8, 10, 11] (by kernel_rfl) rfl rfl rfl rfl ent13 (hx_toRiver (by assumption) hv0 hs0) ?_
      rintro _ W1 ⟨pa1, ka1, pb1, kb1, pc1, kc1, rfl, H1⟩
      dsimp only [rvR, List.cons_append, List.nil_append] at H1
      refine ⟨Hp.sub H1 (by repeat (first | exact List.nil_sublist _ | refine List.Sublist.cons_cons _ ?_ | refine List.Sublist.cons _ ?_)), ?_⟩
      refine so_all [3, 9] (by kernel_rfl) (x_one ?_ (x_one ?_ x_none))
      · refine th_call [5, 9, 6, 7, 8, 10, 11] (by kernel_rfl) rfl rfl rfl rfl ent13 (hx_toRiver (by assumption) hv1 hs1) ?_
        rintro _ W3 ⟨pa3, ka3, pb3, kb3, pc3, kc3, rfl, H3⟩
        dsimp only [rvR, List.cons_append, List.nil_append] at H3
        refine ⟨Hp.sub H3 (by repeat (first | exact List.nil_sublist _ | refine List.Sublist.cons_cons _ ?_ | refine List.Sublist.cons _ ?_)), ?_⟩
        refine so_all [5, 9] (by kernel_rfl) (x_one ?_ (x_one ?_ x_none))
        · refine th_call [6, 7, 8, 9, 10, 11] (by kernel_rfl) rfl rfl rfl rfl ent12 (c_spec_JoinRivers (Hp.size (by assumption)) (Hp.rv (by assumption) (by repeat (first | exact List.Mem.head _ | apply List.Mem.tail)) (by repeat (first | exact List.Mem.head _ | apply List.Mem.tail)) (by repeat (first | exact List.Mem.head _ | apply List.Mem.tail))) hs0 (Hp.rv (by assumption) (by repeat (first | exact List.Mem.head _ | apply List.Mem.tail)) (by repeat (first | exact List.Mem.head _ | apply List.Mem.tail)) (by repeat (first | exact List.Mem.head _ | apply List.Mem.tail))) hs1 q) ?_
          rintro _ W5 ⟨pd, kd, pe, ke, pf, kf, rfl, g5⟩
          have H5 := Hp.call3 (by assumption) g5
          refine ⟨Hp.sub H5 (by repeat (first | exact List.nil_sublist _ | refine List.Sublist.cons_cons _ ?_ | refine List.Sublist.cons _ ?_)), ?_⟩
          repeat (first
      | refine so_pure tabOk lax_mid rfl rfl rfl rfl (by kernel_rfl) ?_
      | refine so_load' tabOk lax_mid rfl rfl rfl rfl (by repeat (first | exact List.Mem.head _ | apply List.Mem.tail)) (by rfl) (by rfl) (by kernel_rfl) ?_
      | refine so_loada' tabOk lax_mid rfl rfl rfl rfl (by repeat (first | exact List.Mem.head _ | apply List.Mem.tail)) (by rfl) (by kernel_rfl) ?_
      | refine so_len tabOk lax_mid rfl rfl rfl rfl (by kernel_rfl) ?_
      | refine so_build' tabOk lax_mid rfl rfl rfl rfl rfl rfl (by kernel_rfl) ?_
      | refine so_index1n tabOk lax_mid rfl rfl rfl rfl (by omega) (by kernel_rfl) ?_
      | refine so_indexn tabOk lax_mid rfl rfl rfl rfl (by omega) (by kernel_rfl) ?_
      | refine so_index1 tabOk lax_mid rfl rfl rfl rfl (by omega) (by omega) (by kernel_rfl) ?_
      | refine so_pass lax_mid rfl rfl rfl (by kernel_rfl) ?_
      | refine so_arith tabOk lax_mid rfl rfl rfl rfl (by simp only [InR]; omega) (by kernel_rfl) ?_)
          refine so_single (by kernel_rfl) (th_alloc tabOk (by assumption) [10, 11] (by kernel_rfl) rfl rfl rfl rfl rfl rfl (fun _ => (by repeat (first | exact List.nil_sublist _ | refine List.Sublist.cons_cons _ ?_ | refine List.Sublist.cons _ ?_))) ?_)
          intro b9 W9 H9
          refine so_single (by kernel_rfl) (th_store tabOk (by assumption) (by simp [cv, Cn.c1, cl]) [11] (by kernel_rfl) rfl rfl rfl rfl rfl rfl (by repeat (first | exact Upd.here | apply Upd.there)) (by rfl) (by repeat (first | exact List.nil_sublist _ | refine List.Sublist.cons_cons _ ?_ | refine List.Sublist.cons _ ?_)) ?_)
          intro W10 H10
          repeat (first
      | refine so_pure tabOk lax_mid rfl rfl rfl rfl (by kernel_rfl) ?_
      | refine so_load' tabOk lax_mid rfl rfl rfl rfl (by repeat (first | exact List.Mem.head _ | apply List.Mem.tail)) (by rfl) (by rfl) (by kernel_rfl) ?_
      | refine so_loada' tabOk lax_mid rfl rfl rfl rfl (by repeat (first | exact List.Mem.head _ | apply List.Mem.tail)) (by rfl) (by kernel_rfl) ?_
      | refine so_len tabOk lax_mid rfl rfl rfl rfl (by kernel_rfl) ?_
      | refine so_build' tabOk lax_mid rfl rfl rfl rfl rfl rfl (by kernel_rfl) ?_
      | refine so_index1n tabOk lax_mid rfl rfl rfl rfl (by omega) (by kernel_rfl) ?_
      | refine so_indexn tabOk lax_mid rfl rfl rfl rfl (by omega) (by kernel_rfl) ?_
      | refine so_index1 tabOk lax_mid rfl rfl rfl rfl (by omega) (by omega) (by kernel_rfl) ?_
      | refine so_pass lax_mid rfl rfl rfl (by kernel_rfl) ?_
      | refine so_arith tabOk lax_mid rfl rfl rfl rfl (by simp only [InR]; omega) (by kernel_rfl) ?_)
          refine so_done ?_
          exact mid_done (pd, kd, pe, ke, pf, kf, b9) (by dsimp only; exact (by repeat (first | exact less_nil | refine less_cons rfl ?_))) (by dsimp only; exact Hp.picks (by assumption) (by repeat (first | exact Picks.nil | (apply Picks.cons; (repeat (first | exact Pick.here | apply Pick.there))))))
        · refine th_alloc tabOk (by assumption) [5, 6, 7, 8, 10, 11] (by kernel_rfl) rfl rfl rfl rfl rfl rfl (fun _ => (by repeat (first | exact List.nil_sublist _ | refine List.Sublist.cons_cons _ ?_ | refine List.Sublist.cons _ ?_))) ?_
          intro b9 W9 H9
          refine so_single (by kernel_rfl) (th_call [6, 7, 8, 10, 11] (by kernel_rfl) rfl rfl rfl rfl ent12 (c_spec_JoinRivers (Hp.size (by assumption)) (Hp.rv (by assumption) (by repeat (first | exact List.Mem.head _ | apply List.Mem.tail)) (by repeat (first | exact List.Mem.head _ | apply List.Mem.tail)) (by repeat (first | exact List.Mem.head _ | apply List.Mem.tail))) hs0 (Hp.rv (by assumption) (by repeat (first | exact List.Mem.head _ | apply List.Mem.tail)) (by repeat (first | exact List.Mem.head _ | apply List.Mem.tail)) (by repeat (first | exact List.Mem.head _ | apply List.Mem.tail))) hs1 q) ?_)
          rintro _ W5 ⟨pd, kd, pe, ke, pf, kf, rfl, g5⟩
          have H5 := Hp.call3 (by assumption) g5
          refine ⟨Hp.sub H5 (by repeat (first | exact List.nil_sublist _ | refine List.Sublist.cons_cons _ ?_ | refine List.Sublist.cons _ ?_)), ?_⟩
          repeat (first
      | refine so_pure tabOk lax_mid rfl rfl rfl rfl (by kernel_rfl) ?_
      | refine so_load' tabOk lax_mid rfl rfl rfl rfl (by repeat (first | exact List.Mem.head _ | apply List.Mem.tail)) (by rfl) (by rfl) (by kernel_rfl) ?_
      | refine so_loada' tabOk lax_mid rfl rfl rfl rfl (by repeat (first | exact List.Mem.head _ | apply List.Mem.tail)) (by rfl) (by kernel_rfl) ?_
      | refine so_len tabOk lax_mid rfl rfl rfl rfl (by kernel_rfl) ?_
      | refine so_build' tabOk lax_mid rfl rfl rfl rfl rfl rfl (by kernel_rfl) ?_
      | refine so_index1n tabOk lax_mid rfl rfl rfl rfl (by omega) (by kernel_rfl) ?_
      | refine so_indexn tabOk lax_mid rfl rfl rfl rfl (by omega) (by kernel_rfl) ?_
      | refine so_index1 tabOk lax_mid rfl rfl rfl rfl (by omega) (by omega) (by kernel_rfl) ?_
      | refine so_pass lax_mid rfl rfl rfl (by kernel_rfl) ?_
      | refine so_arith tabOk lax_mid rfl rfl rfl rfl (by simp only [InR]; omega) (by kernel_rfl) ?_)
          refine so_single (by kernel_rfl) (th_store tabOk (by assumption) (by simp [cv, Cn.c1, cl]) [11] (by kernel_rfl) rfl rfl rfl rfl rfl rfl (by repeat (first | exact Upd.here | apply Upd.there)) (by rfl) (by repeat (first | exact List.nil_sublist _ | refine List.Sublist.cons_cons _ ?_ | refine List.Sublist.cons _ ?_)) ?_)
          intro W10 H10
          repeat (first
      | refine so_pure tabOk lax_mid rfl rfl rfl rfl (by kernel_rfl) ?_
      | refine so_load' tabOk lax_mid rfl rfl rfl rfl (by repeat (first | exact List.Mem.head _ | apply List.Mem.tail)) (by rfl) (by rfl) (by kernel_rfl) ?_
      | refine so_loada' tabOk lax_mid rfl rfl rfl rfl (by repeat (first | exact List.Mem.head _ | apply List.Mem.tail)) (by rfl) (by kernel_rfl) ?_
      | refine so_len tabOk lax_mid rfl rfl rfl rfl (by kernel_rfl) ?_
      | refine so_build' tabOk lax_mid rfl rfl rfl rfl rfl rfl (by kernel_rfl) ?_
      | refine so_index1n tabOk lax_mid rfl rfl rfl rfl (by omega) (by kernel_rfl) ?_
      | refine so_indexn tabOk lax_mid rfl rfl rfl rfl (by omega) (by kernel_rfl) ?_
      | refine so_index1 tabOk lax_mid rfl rfl rfl rfl (by omega) (by omega) (by kernel_rfl) ?_
      | refine so_pass lax_mid rfl rfl rfl (by kernel_rfl) ?_
      | refine so_arith tabOk lax_mid rfl rfl rfl rfl (by simp only [InR]; omega) (by kernel_rfl) ?_)
          refine so_done ?_
          exact mid_done (pd, kd, pe, ke, pf, kf, b9) (by dsimp only; exact (by repeat (first | exact less_nil | refine less_cons rfl ?_))) (by dsimp only; exact Hp.picks (by assumption) (by repeat (first | exact Picks.nil | (apply Picks.cons; (repeat (first | exact Pick.here | apply Pick.there))))))
      · refine th_alloc tabOk (by assumption) [3, 5, 6, 7, 8, 10, 11] (by kernel_rfl) rfl rfl rfl rfl rfl rfl (fun _ => (by repeat (first | exact List.nil_sublist _ | refine List.Sublist.cons_cons _ ?_ | refine List.Sublist.cons _ ?_))) ?_
        intro b9 W9 H9
        refine so_single (by kernel_rfl) (th_call [5, 6, 7, 8, 10, 11] (by kernel_rfl) rfl rfl rfl rfl ent13 (hx_toRiver (by assumption) hv1 hs1) ?_)
        rintro _ W3 ⟨pa3, ka3, pb3, kb3, pc3, kc3, rfl, H3⟩
        dsimp only [rvR, List.cons_append, List.nil_append] at H3
        refine ⟨Hp.sub H3 (by repeat (first | exact List.nil_sublist _ | refine List.Sublist.cons_cons _ ?_ | refine List.Sublist.cons _ ?_)), ?_⟩
        refine so_single (by kernel_rfl) (th_call [6, 7, 8, 10, 11] (by kernel_rfl) rfl rfl rfl rfl ent12 (c_spec_JoinRivers (Hp.size (by assumption)) (Hp.rv (by assumption) (by repeat (first | exact List.Mem.head _ | apply List.Mem.tail)) (by repeat (first | exact List.Mem.head _ | apply List.Mem.tail)) (by repeat (first | exact List.Mem.head _ | apply List.Mem.tail))) hs0 (Hp.rv (by assumption) (by repeat (first | exact List.Mem.head _ | apply List.Mem.tail)) (by repeat (first | exact List.Mem.head _ | apply List.Mem.tail)) (by repeat (first | exact List.Mem.head _ | apply List.Mem.tail))) hs1 q) ?_)
        rintro _ W5 ⟨pd, kd, pe, ke, pf, kf, rfl, g5⟩
        have H5 := Hp.call3 (by assumption) g5
        refine ⟨Hp.sub H5 (by repeat (first | exact List.nil_sublist _ | refine List.Sublist.cons_cons _ ?_ | refine List.Sublist.cons _ ?_)), ?_⟩
        repeat (first
      | refine so_pure tabOk lax_mid rfl rfl rfl rfl (by kernel_rfl) ?_
      | refine so_load' tabOk lax_mid rfl rfl rfl rfl (by repeat (first | exact List.Mem.head _ | apply List.Mem.tail)) (by rfl) (by rfl) (by kernel_rfl) ?_
      | refine so_loada' tabOk lax_mid rfl rfl rfl rfl (by repeat (first | exact List.Mem.head _ | apply List.Mem.tail)) (by rfl) (by kernel_rfl) ?_
      | refine so_len tabOk lax_mid rfl rfl rfl rfl (by kernel_rfl) ?_
      | refine so_build' tabOk lax_mid rfl rfl rfl rfl rfl rfl (by kernel_rfl) ?_
      | refine so_index1n tabOk lax_mid rfl rfl rfl rfl (by omega) (by kernel_rfl) ?_
      | refine so_indexn tabOk lax_mid rfl rfl rfl rfl (by omega) (by kernel_rfl) ?_
      | refine so_index1 tabOk lax_mid rfl rfl rfl rfl (by omega) (by omega) (by kernel_rfl) ?_
      | refine so_pass lax_mid rfl rfl rfl (by kernel_rfl) ?_
      | refine so_arith tabOk lax_mid rfl rfl rfl rfl (by simp only [InR]; omega) (by kernel_rfl) ?_)
        refine so_single (by kernel_rfl) (th_store tabOk (by assumption) (by simp [cv, Cn.c1, cl]) [11] (by kernel_rfl) rfl rfl rfl rfl rfl rfl (by repeat (first | exact Upd.here | apply Upd.there)) (by rfl) (by repeat (first | exact List.nil_sublist _ | refine List.Sublist.cons_cons _ ?_ | refine List.Sublist.cons _ ?_)) ?_)
        intro W10 H10
        repeat (first
      | refine so_pure tabOk lax_mid rfl rfl rfl rfl (by kernel_rfl) ?_
      | refine so_load' tabOk lax_mid rfl rfl rfl rfl (by repeat (first | exact List.Mem.head _ | apply List.Mem.tail)) (by rfl) (by rfl) (by kernel_rfl) ?_
      | refine so_loada' tabOk lax_mid rfl rfl rfl rfl (by repeat (first | exact List.Mem.head _ | apply List.Mem.tail)) (by rfl) (by kernel_rfl) ?_
      | refine so_len tabOk lax_mid rfl rfl rfl rfl (by kernel_rfl) ?_
      | refine so_build' tabOk lax_mid rfl rfl rfl rfl rfl rfl (by kernel_rfl) ?_
      | refine so_index1n tabOk lax_mid rfl rfl rfl rfl (by omega) (by kernel_rfl) ?_
      | refine so_indexn tabOk lax_mid rfl rfl rfl rfl (by omega) (by kernel_rfl) ?_
      | refine so_index1 tabOk lax_mid rfl rfl rfl rfl (by omega) (by omega) (by kernel_rfl) ?_
      | refine so_pass lax_mid rfl rfl rfl (by kernel_rfl) ?_
      | refine so_arith tabOk lax_mid rfl rfl rfl rfl (by simp only [InR]; omega) (by kernel_rfl) ?_)
        refine so_done ?_
        exact mid_done (pd, kd, pe, ke, pf, kf, b9) (by dsimp only; exact (by repeat (first | exact less_nil | refine less_cons rfl ?_))) (by dsimp only; exact Hp.picks (by assumption) (by repeat (first | exact Picks.nil | (apply Picks.cons; (repeat (first | exact Pick.here | apply Pick.there))))))
    · refine th_alloc tabOk (by assumption) [1, 3, 5, 6, 7, 8, 10, 11] (by kernel_rfl) rfl rfl rfl rfl rfl rfl (fun _ => (by repeat (first | exact List.nil_sublist _ | refine List.Sublist.cons_cons _ ?_ | refine List.Sublist.cons _ ?_))) ?_
      intro b9 W9 H9
      refine so_single (by kernel_rfl) (th_call [3, 5, 6, 7, 8, 10, 11] (by kernel_rfl) rfl rfl rfl rfl ent13 (hx_toRiver (by assumption) hv0 hs0) ?_)
      rintro _ W1 ⟨pa1, ka1, pb1, kb1, pc1, kc1, rfl, H1⟩
      dsimp only [rvR, List.cons_append, List.nil_append] at H1
      refine ⟨Hp.sub H1 (by repeat (first | exact List.nil_sublist _ | refine List.Sublist.cons_cons _ ?_ | refine List.Sublist.cons _ ?_)), ?_⟩
      refine so_single (by kernel_rfl) (th_call [5, 6, 7, 8, 10, 11] (by kernel_rfl) rfl rfl rfl rfl ent13 (hx_toRiver (by assumption) hv1 hs1) ?_)
      rintro _ W3 ⟨pa3, ka3, pb3, kb3, pc3, kc3, rfl, H3⟩
      dsimp only [rvR, List.cons_append, List.nil_append] at H3
      refine ⟨Hp.sub H3 (by repeat (first | exact List.nil_sublist _ | refine List.Sublist.cons_cons _ ?_ | refine List.Sublist.cons _ ?_)), ?_⟩
      refine so_single (by kernel_rfl) (th_call [6, 7, 8, 10, 11] (by kernel_rfl) rfl rfl rfl rfl ent12 (c_spec_JoinRivers (Hp.size (by assumption)) (Hp.rv (by assumption) (by repeat (first | exact List.Mem.head _ | apply List.Mem.tail)) (by repeat (first | exact List.Mem.head _ | apply List.Mem.tail)) (by repeat (first | exact List.Mem.head _ | apply List.Mem.tail))) hs0 (Hp.rv (by assumption) (by repeat (first | exact List.Mem.head _ | apply List.Mem.tail)) (by repeat (first | exact List.Mem.head _ | apply List.Mem.tail)) (by repeat (first | exact List.Mem.head _ | apply List.Mem.tail))) hs1 q) ?_)
      rintro _ W5 ⟨pd, kd, pe, ke, pf, kf, rfl, g5⟩
      have H5 := Hp.call3 (by assumption) g5
      refine ⟨Hp.sub H5 (by repeat (first | exact List.nil_sublist _ | refine List.Sublist.cons_cons _ ?_ | refine List.Sublist.cons _ ?_)), ?_⟩
      repeat (first
      | refine so_pure tabOk lax_mid rfl rfl rfl rfl (by kernel_rfl) ?_
      | refine so_load' tabOk lax_mid rfl rfl rfl rfl (by repeat (first | exact List.Mem.head _ | apply List.Mem.tail)) (by rfl) (by rfl) (by kernel_rfl) ?_
      | refine so_loada' tabOk lax_mid rfl rfl rfl rfl (by repeat (first | exact List.Mem.head _ | apply List.Mem.tail)) (by rfl) (by kernel_rfl) ?_
      | refine so_len tabOk lax_mid rfl rfl rfl rfl (by kernel_rfl) ?_
      | refine so_build' tabOk lax_mid rfl rfl rfl rfl rfl rfl (by kernel_rfl) ?_
      | refine so_index1n tabOk lax_mid rfl rfl rfl rfl (by omega) (by kernel_rfl) ?_
      | refine so_indexn tabOk lax_mid rfl rfl rfl rfl (by omega) (by kernel_rfl) ?_
      | refine so_index1 tabOk lax_mid rfl rfl rfl rfl (by omega) (by omega) (by kernel_rfl) ?_
      | refine so_pass lax_mid rfl rfl rfl (by kernel_rfl) ?_
      | refine so_arith tabOk lax_mid rfl rfl rfl rfl (by simp only [InR]; omega) (by kernel_rfl) ?_)
      refine so_single (by kernel_rfl) (th_store tabOk (by assumption) (by simp [cv, Cn.c1, cl]) [11] (by kernel_rfl) rfl rfl rfl rfl rfl rfl (by repeat (first | exact Upd.here | apply Upd.there)) (by rfl) (by repeat (first | exact List.nil_sublist _ | refine List.Sublist.cons_cons _ ?_ | refine List.Sublist.cons _ ?_)) ?_)
      intro W10 H10
      repeat (first
      | refine so_pure tabOk lax_mid rfl rfl rfl rfl (by kernel_rfl) ?_
      | refine so_load' tabOk lax_mid rfl rfl rfl rfl (by repeat (first | exact List.Mem.head _ | apply List.Mem.tail)) (by rfl) (by rfl) (by kernel_rfl) ?_
      | refine so_loada' tabOk lax_mid rfl rfl rfl rfl (by repeat (first | exact List.Mem.head _ | apply List.Mem.tail)) (by rfl) (by kernel_rfl) ?_
      | refine so_len tabOk lax_mid rfl rfl rfl rfl (by kernel_rfl) ?_
      | refine so_build' tabOk lax_mid rfl rfl rfl rfl rfl rfl (by kernel_rfl) ?_
      | refine so_index1n tabOk lax_mid rfl rfl rfl rfl (by omega) (by kernel_rfl) ?_
      | refine so_indexn tabOk lax_mid rfl rfl rfl rfl (by omega) (by kernel_rfl) ?_
      | refine so_index1 tabOk lax_mid rfl rfl rfl rfl (by omega) (by omega) (by kernel_rfl) ?_
      | refine so_pass lax_mid rfl rfl rfl (by kernel_rfl) ?_
      | refine so_arith tabOk lax_mid rfl rfl rfl rfl (by simp only [InR]; omega) (by kernel_rfl) ?_)
      refine so_done ?_
      exact mid_done (pd, kd, pe, ke, pf, kf, b9) (by dsimp only; exact (by repeat (first | exact less_nil | refine less_cons rfl ?_))) (by dsimp only; exact Hp.picks (by assumption) (by repeat (first | exact Picks.nil | (apply Picks.cons; (repeat (first | exact Pick.here | apply Pick.there))))))
  rintro ⟨pd, kd, pe, ke, pf, kf, b8⟩ W8 H8
  dsimp only at H8 ⊢
  clear H0 H1 H2
  unfold JoinH at impl
  generalize joinV r s q = z at *
  generalize joinOk r s q = ok at *
  repeat' (first
      | refine s_pure tabOk rfl rfl rfl rfl ?_
      | refine aops_nil ?_
      | refine thn_normal ?_
      | refine aw_seq ?_
      | refine aw_regk 19 rfl ?_
      | refine s_pass rfl rfl rfl ?_
      | refine s_len tabOk rfl rfl rfl rfl ?_
      | refine aw_true rfl ?_
      | refine aw_false rfl ?_
      | refine aw_block ?_
      | refine aw_skip ?_
      | refine aw_exit ?_
      | refine blk_exit ?_
      | refine blk_exit_other rfl ?_
      | refine blk_normal ?_
      | refine thn_exit ?_
      | refine thn_ret ?_
      | refine blk_ret ?_
      | refine rnd_ret ?_
      | refine rnd_exit ?_
      | refine aw_ret ?_
      | refine s_arith tabOk rfl rfl rfl rfl (by simp only [InR]; omega) ?_
      | ((fail_if_success refine s_told rfl rfl ?_); refine s_part rfl rfl rfl ?_ ?_ <;> intro hc <;> (first | replace hc := of_decide_eq_true hc | replace hc := of_decide_eq_false hc | replace hc := eq_of_beq hc | simp only [Bool.not_eq_true', Bool.not_eq_false', Bool.and_eq_true, Bool.or_eq_true, Bool.or_eq_false_iff, Bool.not_true, Bool.not_false, decide_eq_true_eq, decide_eq_false_iff_not, Bool.and_eq_false_imp, bne_iff_ne, ne_eq, beq_iff_eq, beq_eq_false_iff_ne, bne_eq_false_iff_eq, bne_self_eq_false, not_true_eq_false, eq_self, Bool.true_eq_false, Bool.false_eq_true] at hc | skip))
      | (refine aw_if rfl ?_ ?_ <;> intro hc <;> (first | replace hc := of_decide_eq_true hc | replace hc := of_decide_eq_false hc | replace hc := eq_of_beq hc | simp only [Bool.not_eq_true', Bool.not_eq_false', Bool.and_eq_true, Bool.or_eq_true, Bool.or_eq_false_iff, Bool.not_true, Bool.not_false, decide_eq_true_eq, decide_eq_false_iff_not, Bool.and_eq_false_imp, bne_iff_ne, ne_eq, beq_iff_eq, beq_eq_false_iff_ne, bne_eq_false_iff_eq, bne_self_eq_false, not_true_eq_false, eq_self, Bool.true_eq_false, Bool.false_eq_true] at hc | skip))
      | refine s_index1n tabOk rfl rfl rfl rfl (by omega) ?_
      | refine s_indexn tabOk rfl rfl rfl rfl (by omega) ?_
      | refine s_index1 tabOk rfl rfl rfl rfl (by omega) (by omega) ?_
      | refine sh_load tabOk (by assumption) rfl rfl rfl rfl (by repeat (first | exact List.Mem.head _ | apply List.Mem.tail)) (by rfl) (by rfl) ?_
      | refine sh_loada tabOk (by assumption) rfl rfl rfl rfl (by repeat (first | exact List.Mem.head _ | apply List.Mem.tail)) (by rfl) ?_
      | (refine sh_box (by assumption) rfl rfl rfl rfl rfl rfl ?_; intro _ _ _)
      | (refine sh_alloc tabOk (by assumption) rfl rfl rfl rfl rfl rfl ?_; intro _ _ _)
      | (refine sh_store tabOk (by assumption) rfl rfl rfl rfl rfl rfl (by repeat (first | exact Upd.here | apply Upd.there)) (by rfl) ?_; intro _ _)
      | (refine sh_lit tabOk (by assumption) rfl rfl rfl rfl rfl rfl rfl rfl rfl rfl rfl ?_; intro _ _ _)
      | refine sh_build tabOk rfl rfl rfl rfl rfl rfl ?_
      | refine rndh_ret ?_
      | refine rndh_exit ?_)
  refine s_call rfl rfl rfl rfl ent13 (hx_toRiver (by assumption) hv0 hs0) ?_
  rintro _ W9 ⟨pa9, ka9, pb9, kb9, pc9, kc9, rfl, H9⟩
  dsimp only [rvR, List.cons_append, List.nil_append] at H9
  repeat' (first
      | refine s_pure tabOk rfl rfl rfl rfl ?_
      | refine aops_nil ?_
      | refine thn_normal ?_
      | refine aw_seq ?_
      | refine aw_regk 19 rfl ?_
      | refine s_pass rfl rfl rfl ?_
      | refine s_len tabOk rfl rfl rfl rfl ?_
      | refine aw_true rfl ?_
      | refine aw_false rfl ?_
      | refine aw_block ?_
      | refine aw_skip ?_
      | refine aw_exit ?_
      | refine blk_exit ?_
      | refine blk_exit_other rfl ?_
      | refine blk_normal ?_
      | refine thn_exit ?_
      | refine thn_ret ?_
      | refine blk_ret ?_
      | refine rnd_ret ?_
      | refine rnd_exit ?_
      | refine aw_ret ?_
      | refine s_arith tabOk rfl rfl rfl rfl (by simp only [InR]; omega) ?_
      | ((fail_if_success refine s_told rfl rfl ?_); refine s_part rfl rfl rfl ?_ ?_ <;> intro hc <;> (first | replace hc := of_decide_eq_true hc | replace hc := of_decide_eq_false hc | replace hc := eq_of_beq hc | simp only [Bool.not_eq_true', Bool.not_eq_false', Bool.and_eq_true, Bool.or_eq_true, Bool.or_eq_false_iff, Bool.not_true, Bool.not_false, decide_eq_true_eq, decide_eq_false_iff_not, Bool.and_eq_false_imp, bne_iff_ne, ne_eq, beq_iff_eq, beq_eq_false_iff_ne, bne_eq_false_iff_eq, bne_self_eq_false, not_true_eq_false, eq_self, Bool.true_eq_false, Bool.false_eq_true] at hc | skip))
      | (refine aw_if rfl ?_ ?_ <;> intro hc <;> (first | replace hc := of_decide_eq_true hc | replace hc := of_decide_eq_false hc | replace hc := eq_of_beq hc | simp only [Bool.not_eq_true', Bool.not_eq_false', Bool.and_eq_true, Bool.or_eq_true, Bool.or_eq_false_iff, Bool.not_true, Bool.not_false, decide_eq_true_eq, decide_eq_false_iff_not, Bool.and_eq_false_imp, bne_iff_ne, ne_eq, beq_iff_eq, beq_eq_false_iff_ne, bne_eq_false_iff_eq, bne_self_eq_false, not_true_eq_false, eq_self, Bool.true_eq_false, Bool.false_eq_true] at hc | skip))
      | refine s_index1n tabOk rfl rfl rfl rfl (by omega) ?_
      | refine s_indexn tabOk rfl rfl rfl rfl (by omega) ?_
      | refine s_index1 tabOk rfl rfl rfl rfl (by omega) (by omega) ?_
      | refine sh_load tabOk (by assumption) rfl rfl rfl rfl (by repeat (first | exact List.Mem.head _ | apply List.Mem.tail)) (by rfl) (by rfl) ?_
      | refine sh_loada tabOk (by assumption) rfl rfl rfl rfl (by repeat (first | exact List.Mem.head _ | apply List.Mem.tail)) (by rfl) ?_
      | (refine sh_box (by assumption) rfl rfl rfl rfl rfl rfl ?_; intro _ _ _)
      | (refine sh_alloc tabOk (by assumption) rfl rfl rfl rfl rfl rfl ?_; intro _ _ _)
      | (refine sh_store tabOk (by assumption) rfl rfl rfl rfl rfl rfl (by repeat (first | exact Upd.here | apply Upd.there)) (by rfl) ?_; intro _ _)
      | (refine sh_lit tabOk (by assumption) rfl rfl rfl rfl rfl rfl rfl rfl rfl rfl rfl ?_; intro _ _ _)
      | refine sh_build tabOk rfl rfl rfl rfl rfl rfl ?_
      | refine rndh_ret ?_
      | refine rndh_exit ?_)
  refine s_call rfl rfl rfl rfl ent13 (hx_toRiver (by assumption) hv1 hs1) ?_
  rintro _ W10 ⟨pa10, ka10, pb10, kb10, pc10, kc10, rfl, H10⟩
  dsimp only [rvR, List.cons_append, List.nil_append] at H10
  repeat' (first
      | refine s_pure tabOk rfl rfl rfl rfl ?_
      | refine aops_nil ?_
      | refine thn_normal ?_
      | refine aw_seq ?_
      | refine aw_regk 19 rfl ?_
      | refine s_pass rfl rfl rfl ?_
      | refine s_len tabOk rfl rfl rfl rfl ?_
      | refine aw_true rfl ?_
      | refine aw_false rfl ?_
      | refine aw_block ?_
      | refine aw_skip ?_
      | refine aw_exit ?_
      | refine blk_exit ?_
      | refine blk_exit_other rfl ?_
      | refine blk_normal ?_
      | refine thn_exit ?_
      | refine thn_ret ?_
      | refine blk_ret ?_
      | refine rnd_ret ?_
      | refine rnd_exit ?_
      | refine aw_ret ?_
      | refine s_arith tabOk rfl rfl rfl rfl (by simp only [InR]; omega) ?_
      | ((fail_if_success refine s_told rfl rfl ?_); refine s_part rfl rfl rfl ?_ ?_ <;> intro hc <;> (first | replace hc := of_decide_eq_true hc | replace hc := of_decide_eq_false hc | replace hc := eq_of_beq hc | simp only [Bool.not_eq_true', Bool.not_eq_false', Bool.and_eq_true, Bool.or_eq_true, Bool.or_eq_false_iff, Bool.not_true, Bool.not_false, decide_eq_true_eq, decide_eq_false_iff_not, Bool.and_eq_false_imp, bne_iff_ne, ne_eq, beq_iff_eq, beq_eq_false_iff_ne, bne_eq_false_iff_eq, bne_self_eq_false, not_true_eq_false, eq_self, Bool.true_eq_false, Bool.false_eq_true] at hc | skip))
      | (refine aw_if rfl ?_ ?_ <;> intro hc <;> (first | replace hc := of_decide_eq_true hc | replace hc := of_decide_eq_false hc | replace hc := eq_of_beq hc | simp only [Bool.not_eq_true', Bool.not_eq_false', Bool.and_eq_true, Bool.or_eq_true, Bool.or_eq_false_iff, Bool.not_true, Bool.not_false, decide_eq_true_eq, decide_eq_false_iff_not, Bool.and_eq_false_imp, bne_iff_ne, ne_eq, beq_iff_eq, beq_eq_false_iff_ne, bne_eq_false_iff_eq, bne_self_eq_false, not_true_eq_false, eq_self, Bool.true_eq_false, Bool.false_eq_true] at hc | skip))
      | refine s_index1n tabOk rfl rfl rfl rfl (by omega) ?_
      | refine s_indexn tabOk rfl rfl rfl rfl (by omega) ?_
      | refine s_index1 tabOk rfl rfl rfl rfl (by omega) (by omega) ?_
      | refine sh_load tabOk (by assumption) rfl rfl rfl rfl (by repeat (first | exact List.Mem.head _ | apply List.Mem.tail)) (by rfl) (by rfl) ?_
      | refine sh_loada tabOk (by assumption) rfl rfl rfl rfl (by repeat (first | exact List.Mem.head _ | apply List.Mem.tail)) (by rfl) ?_
      | (refine sh_box (by assumption) rfl rfl rfl rfl rfl rfl ?_; intro _ _ _)
      | (refine sh_alloc tabOk (by assumption) rfl rfl rfl rfl rfl rfl ?_; intro _ _ _)
      | (refine sh_store tabOk (by assumption) rfl rfl rfl rfl rfl rfl (by repeat (first | exact Upd.here | apply Upd.there)) (by rfl) ?_; intro _ _)
      | (refine sh_lit tabOk (by assumption) rfl rfl rfl rfl rfl rfl rfl rfl rfl rfl rfl ?_; intro _ _ _)
      | refine sh_build tabOk rfl rfl rfl rfl rfl rfl ?_
      | refine rndh_ret ?_
      | refine rndh_exit ?_)
  refine s_call rfl rfl rfl rfl ent14 (impl (by assumption) (Hp.rv (by assumption) (by repeat (first | exact List.Mem.head _ | apply List.Mem.tail)) (by repeat (first | exact List.Mem.head _ | apply List.Mem.tail)) (by repeat (first | exact List.Mem.head _ | apply List.Mem.tail))) (Hp.rv (by assumption) (by repeat (first | exact List.Mem.head _ | apply List.Mem.tail)) (by repeat (first | exact List.Mem.head _ | apply List.Mem.tail)) (by repeat (first | exact List.Mem.head _ | apply List.Mem.tail)))) ?_
  rintro _ W11 ⟨pa11, ka11, pb11, kb11, pc11, kc11, rfl, g11⟩
  have H11 := Hp.call3 (by assumption) g11
  repeat' (first
      | refine s_pure tabOk rfl rfl rfl rfl ?_
      | refine aops_nil ?_
      | refine thn_normal ?_
      | refine aw_seq ?_
      | refine aw_regk 19 rfl ?_
      | refine s_pass rfl rfl rfl ?_
      | refine s_len tabOk rfl rfl rfl rfl ?_
      | refine aw_true rfl ?_
      | refine aw_false rfl ?_
      | refine aw_block ?_
      | refine aw_skip ?_
      | refine aw_exit ?_
      | refine blk_exit ?_
      | refine blk_exit_other rfl ?_
      | refine blk_normal ?_
      | refine thn_exit ?_
      | refine thn_ret ?_
      | refine blk_ret ?_
      | refine rnd_ret ?_
      | refine rnd_exit ?_
      | refine aw_ret ?_
      | refine s_arith tabOk rfl rfl rfl rfl (by simp only [InR]; omega) ?_
      | ((fail_if_success refine s_told rfl rfl ?_); refine s_part rfl rfl rfl ?_ ?_ <;> intro hc <;> (first | replace hc := of_decide_eq_true hc | replace hc := of_decide_eq_false hc | replace hc := eq_of_beq hc | simp only [Bool.not_eq_true', Bool.not_eq_false', Bool.and_eq_true, Bool.or_eq_true, Bool.or_eq_false_iff, Bool.not_true, Bool.not_false, decide_eq_true_eq, decide_eq_false_iff_not, Bool.and_eq_false_imp, bne_iff_ne, ne_eq, beq_iff_eq, beq_eq_false_iff_ne, bne_eq_false_iff_eq, bne_self_eq_false, not_true_eq_false, eq_self, Bool.true_eq_false, Bool.false_eq_true] at hc | skip))
      | (refine aw_if rfl ?_ ?_ <;> intro hc <;> (first | replace hc := of_decide_eq_true hc | replace hc := of_decide_eq_false hc | replace hc := eq_of_beq hc | simp only [Bool.not_eq_true', Bool.not_eq_false', Bool.and_eq_true, Bool.or_eq_true, Bool.or_eq_false_iff, Bool.not_true, Bool.not_false, decide_eq_true_eq, decide_eq_false_iff_not, Bool.and_eq_false_imp, bne_iff_ne, ne_eq, beq_iff_eq, beq_eq_false_iff_ne, bne_eq_false_iff_eq, bne_self_eq_false, not_true_eq_false, eq_self, Bool.true_eq_false, Bool.false_eq_true] at hc | skip))
      | refine s_index1n tabOk rfl rfl rfl rfl (by omega) ?_
      | refine s_indexn tabOk rfl rfl rfl rfl (by omega) ?_
      | refine s_index1 tabOk rfl rfl rfl rfl (by omega) (by omega) ?_
      | refine sh_load tabOk (by assumption) rfl rfl rfl rfl (by repeat (first | exact List.Mem.head _ | apply List.Mem.tail)) (by rfl) (by rfl) ?_
      | refine sh_loada tabOk (by assumption) rfl rfl rfl rfl (by repeat (first | exact List.Mem.head _ | apply List.Mem.tail)) (by rfl) ?_
      | (refine sh_box (by assumption) rfl rfl rfl rfl rfl rfl ?_; intro _ _ _)
      | (refine sh_alloc tabOk (by assumption) rfl rfl rfl rfl rfl rfl ?_; intro _ _ _)
      | (refine sh_store tabOk (by assumption) rfl rfl rfl rfl rfl rfl (by repeat (first | exact Upd.here | apply Upd.there)) (by rfl) ?_; intro _ _)
      | (refine sh_lit tabOk (by assumption) rfl rfl rfl rfl rfl rfl rfl rfl rfl rfl rfl ?_; intro _ _ _)
      | refine sh_build tabOk rfl rfl rfl rfl rfl rfl ?_
      | refine rndh_ret ?_
      | refine rndh_exit ?_)
  rename_i b12 X121 G121 X122 G122
  refine s_call rfl rfl rfl rfl ent15 (hx_eqRiver (by assumption) (Hp.rv (by assumption) (by repeat (first | exact List.Mem.head _ | apply List.Mem.tail)) (by repeat (first | exact List.Mem.head _ | apply List.Mem.tail)) (by repeat (first | exact List.Mem.head _ | apply List.Mem.tail))) (Hp.rv (by assumption) (by repeat (first | exact List.Mem.head _ | apply List.Mem.tail)) (by repeat (first | exact List.Mem.head _ | apply List.Mem.tail)) (by repeat (first | exact List.Mem.head _ | apply List.Mem.tail))) hz) ?_
  rintro _ W12 ⟨rfl, H12⟩
  repeat' (first
      | refine s_pure tabOk rfl rfl rfl rfl ?_
      | refine aops_nil ?_
      | refine thn_normal ?_
      | refine aw_seq ?_
      | refine aw_regk 19 rfl ?_
      | refine s_pass rfl rfl rfl ?_
      | refine s_len tabOk rfl rfl rfl rfl ?_
      | refine aw_true rfl ?_
      | refine aw_false rfl ?_
      | refine aw_block ?_
      | refine aw_skip ?_
      | refine aw_exit ?_
      | refine blk_exit ?_
      | refine blk_exit_other rfl ?_
      | refine blk_normal ?_
      | refine thn_exit ?_
      | refine thn_ret ?_
      | refine blk_ret ?_
      | refine rnd_ret ?_
      | refine rnd_exit ?_
      | refine aw_ret ?_
      | refine s_arith tabOk rfl rfl rfl rfl (by simp only [InR]; omega) ?_
      | ((fail_if_success refine s_told rfl rfl ?_); refine s_part rfl rfl rfl ?_ ?_ <;> intro hc <;> (first | replace hc := of_decide_eq_true hc | replace hc := of_decide_eq_false hc | replace hc := eq_of_beq hc | simp only [Bool.not_eq_true', Bool.not_eq_false', Bool.and_eq_true, Bool.or_eq_true, Bool.or_eq_false_iff, Bool.not_true, Bool.not_false, decide_eq_true_eq, decide_eq_false_iff_not, Bool.and_eq_false_imp, bne_iff_ne, ne_eq, beq_iff_eq, beq_eq_false_iff_ne, bne_eq_false_iff_eq, bne_self_eq_false, not_true_eq_false, eq_self, Bool.true_eq_false, Bool.false_eq_true] at hc | skip))
      | (refine aw_if rfl ?_ ?_ <;> intro hc <;> (first | replace hc := of_decide_eq_true hc | replace hc := of_decide_eq_false hc | replace hc := eq_of_beq hc | simp only [Bool.not_eq_true', Bool.not_eq_false', Bool.and_eq_true, Bool.or_eq_true, Bool.or_eq_false_iff, Bool.not_true, Bool.not_false, decide_eq_true_eq, decide_eq_false_iff_not, Bool.and_eq_false_imp, bne_iff_ne, ne_eq, beq_iff_eq, beq_eq_false_iff_ne, bne_eq_false_iff_eq, bne_self_eq_false, not_true_eq_false, eq_self, Bool.true_eq_false, Bool.false_eq_true] at hc | skip))
      | refine s_index1n tabOk rfl rfl rfl rfl (by omega) ?_
      | refine s_indexn tabOk rfl rfl rfl rfl (by omega) ?_
      | refine s_index1 tabOk rfl rfl rfl rfl (by omega) (by omega) ?_
      | refine sh_load tabOk (by assumption) rfl rfl rfl rfl (by repeat (first | exact List.Mem.head _ | apply List.Mem.tail)) (by rfl) (by rfl) ?_
      | refine sh_loada tabOk (by assumption) rfl rfl rfl rfl (by repeat (first | exact List.Mem.head _ | apply List.Mem.tail)) (by rfl) ?_
      | (refine sh_box (by assumption) rfl rfl rfl rfl rfl rfl ?_; intro _ _ _)
      | (refine sh_alloc tabOk (by assumption) rfl rfl rfl rfl rfl rfl ?_; intro _ _ _)
      | (refine sh_store tabOk (by assumption) rfl rfl rfl rfl rfl rfl (by repeat (first | exact Upd.here | apply Upd.there)) (by rfl) ?_; intro _ _)
      | (refine sh_lit tabOk (by assumption) rfl rfl rfl rfl rfl rfl rfl rfl rfl rfl rfl ?_; intro _ _ _)
      | refine sh_build tabOk rfl rfl rfl rfl rfl rfl ?_
      | refine rndh_ret ?_
      | refine rndh_exit ?_)
  refine aw_trim 19 rfl ?_
  refine aw_told followsMixed (DH _ _ _) [0, 1, 2, 3, 4] (by kernel_rfl) H12 ?_
  repeat (first
      | refine so_pure tabOk (by first | exact lax_thn | exact lax_blk lax_thn | exact lax_rnd | exact lax_blk lax_rnd | exact lax_rndh | exact lax_blk lax_rndh | exact lax_mid) rfl rfl rfl rfl (by kernel_rfl) ?_
      | refine so_load' tabOk (by first | exact lax_thn | exact lax_blk lax_thn | exact lax_rnd | exact lax_blk lax_rnd | exact lax_rndh | exact lax_blk lax_rndh | exact lax_mid) rfl rfl rfl rfl (by repeat (first | exact List.Mem.head _ | apply List.Mem.tail)) (by rfl) (by rfl) (by kernel_rfl) ?_
      | refine so_loada' tabOk (by first | exact lax_thn | exact lax_blk lax_thn | exact lax_rnd | exact lax_blk lax_rnd | exact lax_rndh | exact lax_blk lax_rndh | exact lax_mid) rfl rfl rfl rfl (by repeat (first | exact List.Mem.head _ | apply List.Mem.tail)) (by rfl) (by kernel_rfl) ?_
      | refine so_len tabOk (by first | exact lax_thn | exact lax_blk lax_thn | exact lax_rnd | exact lax_blk lax_rnd | exact lax_rndh | exact lax_blk lax_rndh | exact lax_mid) rfl rfl rfl rfl (by kernel_rfl) ?_
      | refine so_build' tabOk (by first | exact lax_thn | exact lax_blk lax_thn | exact lax_rnd | exact lax_blk lax_rnd | exact lax_rndh | exact lax_blk lax_rndh | exact lax_mid) rfl rfl rfl rfl rfl rfl (by kernel_rfl) ?_
      | refine so_index1n tabOk (by first | exact lax_thn | exact lax_blk lax_thn | exact lax_rnd | exact lax_blk lax_rnd | exact lax_rndh | exact lax_blk lax_rndh | exact lax_mid) rfl rfl rfl rfl (by omega) (by kernel_rfl) ?_
      | refine so_indexn tabOk (by first | exact lax_thn | exact lax_blk lax_thn | exact lax_rnd | exact lax_blk lax_rnd | exact lax_rndh | exact lax_blk lax_rndh | exact lax_mid) rfl rfl rfl rfl (by omega) (by kernel_rfl) ?_
      | refine so_index1 tabOk (by first | exact lax_thn | exact lax_blk lax_thn | exact lax_rnd | exact lax_blk lax_rnd | exact lax_rndh | exact lax_blk lax_rndh | exact lax_mid) rfl rfl rfl rfl (by omega) (by omega) (by kernel_rfl) ?_
      | refine so_pass (by first | exact lax_thn | exact lax_blk lax_thn | exact lax_rnd | exact lax_blk lax_rnd | exact lax_rndh | exact lax_blk lax_rndh | exact lax_mid) rfl rfl rfl (by kernel_rfl) ?_
      | refine so_arith tabOk (by first | exact lax_thn | exact lax_blk lax_thn | exact lax_rnd | exact lax_blk lax_rnd | exact lax_rndh | exact lax_blk lax_rndh | exact lax_mid) rfl rfl rfl rfl (by simp only [InR]; omega) (by kernel_rfl) ?_)
  refine so_single (by kernel_rfl) (th_call [3, 4] (by kernel_rfl) rfl rfl rfl rfl ent13 (hx_toRiver H12 hv0 hs0) ?_)
  rintro _ W13 ⟨pa13, ka13, pb13, kb13, pc13, kc13, rfl, H13⟩
  dsimp only [rvR, List.cons_append, List.nil_append] at H13
  refine ⟨H13.sub (by repeat (first | exact List.nil_sublist _ | refine List.Sublist.cons_cons _ ?_ | refine List.Sublist.cons _ ?_)), ?_⟩
  refine so_single (by kernel_rfl) (th_call [4] (by kernel_rfl) rfl rfl rfl rfl ent15 (hx_eqRiver H13 (Hp.rv (by assumption) (by repeat (first | exact List.Mem.head _ | apply List.Mem.tail)) (by repeat (first | exact List.Mem.head _ | apply List.Mem.tail)) (by repeat (first | exact List.Mem.head _ | apply List.Mem.tail))) (Hp.rv (by assumption) (by repeat (first | exact List.Mem.head _ | apply List.Mem.tail)) (by repeat (first | exact List.Mem.head _ | apply List.Mem.tail)) (by repeat (first | exact List.Mem.head _ | apply List.Mem.tail))) hs0) ?_)
  rintro _ W14 ⟨rfl, H14⟩
  refine ⟨H14.sub (by repeat (first | exact List.nil_sublist _ | refine List.Sublist.cons_cons _ ?_ | refine List.Sublist.cons _ ?_)), ?_⟩
  refine so_pure tabOk (by first | exact lax_thn | exact lax_blk lax_thn | exact lax_rnd | exact lax_blk lax_rnd | exact lax_rndh | exact lax_blk lax_rndh | exact lax_mid) rfl rfl rfl rfl (by kernel_rfl) ?_
  refine so_done ?_
  repeat' (first
      | refine s_pure tabOk rfl rfl rfl rfl ?_
      | refine aops_nil ?_
      | refine thn_normal ?_
      | refine aw_seq ?_
      | refine aw_regk 19 rfl ?_
      | refine s_pass rfl rfl rfl ?_
      | refine s_len tabOk rfl rfl rfl rfl ?_
      | refine aw_true rfl ?_
      | refine aw_false rfl ?_
      | refine aw_block ?_
      | refine aw_skip ?_
      | refine aw_exit ?_
      | refine blk_exit ?_
      | refine blk_exit_other rfl ?_
      | refine blk_normal ?_
      | refine thn_exit ?_
      | refine thn_ret ?_
      | refine blk_ret ?_
      | refine rnd_ret ?_
      | refine rnd_exit ?_
      | refine aw_ret ?_
      | refine s_arith tabOk rfl rfl rfl rfl (by simp only [InR]; omega) ?_
      | ((fail_if_success refine s_told rfl rfl ?_); refine s_part rfl rfl rfl ?_ ?_ <;> intro hc <;> (first | replace hc := of_decide_eq_true hc | replace hc := of_decide_eq_false hc | replace hc := eq_of_beq hc | simp only [Bool.not_eq_true', Bool.not_eq_false', Bool.and_eq_true, Bool.or_eq_true, Bool.or_eq_false_iff, Bool.not_true, Bool.not_false, decide_eq_true_eq, decide_eq_false_iff_not, Bool.and_eq_false_imp, bne_iff_ne, ne_eq, beq_iff_eq, beq_eq_false_iff_ne, bne_eq_false_iff_eq, bne_self_eq_false, not_true_eq_false, eq_self, Bool.true_eq_false, Bool.false_eq_true] at hc | skip))
      | (refine aw_if rfl ?_ ?_ <;> intro hc <;> (first | replace hc := of_decide_eq_true hc | replace hc := of_decide_eq_false hc | replace hc := eq_of_beq hc | simp only [Bool.not_eq_true', Bool.not_eq_false', Bool.and_eq_true, Bool.or_eq_true, Bool.or_eq_false_iff, Bool.not_true, Bool.not_false, decide_eq_true_eq, decide_eq_false_iff_not, Bool.and_eq_false_imp, bne_iff_ne, ne_eq, beq_iff_eq, beq_eq_false_iff_ne, bne_eq_false_iff_eq, bne_self_eq_false, not_true_eq_false, eq_self, Bool.true_eq_false, Bool.false_eq_true] at hc | skip))
      | refine s_index1n tabOk rfl rfl rfl rfl (by omega) ?_
      | refine s_indexn tabOk rfl rfl rfl rfl (by omega) ?_
      | refine s_index1 tabOk rfl rfl rfl rfl (by omega) (by omega) ?_
      | refine sh_load tabOk (by assumption) rfl rfl rfl rfl (by repeat (first | exact List.Mem.head _ | apply List.Mem.tail)) (by rfl) (by rfl) ?_
      | refine sh_loada tabOk (by assumption) rfl rfl rfl rfl (by repeat (first | exact List.Mem.head _ | apply List.Mem.tail)) (by rfl) ?_
      | (refine sh_box (by assumption) rfl rfl rfl rfl rfl rfl ?_; intro _ _ _)
      | (refine sh_alloc tabOk (by assumption) rfl rfl rfl rfl rfl rfl ?_; intro _ _ _)
      | (refine sh_store tabOk (by assumption) rfl rfl rfl rfl rfl rfl (by repeat (first | exact Upd.here | apply Upd.there)) (by rfl) ?_; intro _ _)
      | (refine sh_lit tabOk (by assumption) rfl rfl rfl rfl rfl rfl rfl rfl rfl rfl rfl ?_; intro _ _ _)
      | refine sh_build tabOk rfl rfl rfl rfl rfl rfl ?_
      | refine rndh_ret ?_
      | refine rndh_exit ?_)
  refine aw_trim 19 rfl ?_
  refine aw_told followsMixed (DH _ _ _) [0, 1, 2, 3, 4] (by kernel_rfl) H14 ?_
  repeat (first
      | refine so_pure tabOk (by first | exact lax_thn | exact lax_blk lax_thn | exact lax_rnd | exact lax_blk lax_rnd | exact lax_rndh | exact lax_blk lax_rndh | exact lax_mid) rfl rfl rfl rfl (by kernel_rfl) ?_
      | refine so_load' tabOk (by first | exact lax_thn | exact lax_blk lax_thn | exact lax_rnd | exact lax_blk lax_rnd | exact lax_rndh | exact lax_blk lax_rndh | exact lax_mid) rfl rfl rfl rfl (by repeat (first | exact List.Mem.head _ | apply List.Mem.tail)) (by rfl) (by rfl) (by kernel_rfl) ?_
      | refine so_loada' tabOk (by first | exact lax_thn | exact lax_blk lax_thn | exact lax_rnd | exact lax_blk lax_rnd | exact lax_rndh | exact lax_blk lax_rndh | exact lax_mid) rfl rfl rfl rfl (by repeat (first | exact List.Mem.head _ | apply List.Mem.tail)) (by rfl) (by kernel_rfl) ?_
      | refine so_len tabOk (by first | exact lax_thn | exact lax_blk lax_thn | exact lax_rnd | exact lax_blk lax_rnd | exact lax_rndh | exact lax_blk lax_rndh | exact lax_mid) rfl rfl rfl rfl (by kernel_rfl) ?_
      | refine so_build' tabOk (by first | exact lax_thn | exact lax_blk lax_thn | exact lax_rnd | exact lax_blk lax_rnd | exact lax_rndh | exact lax_blk lax_rndh | exact lax_mid) rfl rfl rfl rfl rfl rfl (by kernel_rfl) ?_
      | refine so_index1n tabOk (by first | exact lax_thn | exact lax_blk lax_thn | exact lax_rnd | exact lax_blk lax_rnd | exact lax_rndh | exact lax_blk lax_rndh | exact lax_mid) rfl rfl rfl rfl (by omega) (by kernel_rfl) ?_
      | refine so_indexn tabOk (by first | exact lax_thn | exact lax_blk lax_thn | exact lax_rnd | exact lax_blk lax_rnd | exact lax_rndh | exact lax_blk lax_rndh | exact lax_mid) rfl rfl rfl rfl (by omega) (by kernel_rfl) ?_
      | refine so_index1 tabOk (by first | exact lax_thn | exact lax_blk lax_thn | exact lax_rnd | exact lax_blk lax_rnd | exact lax_rndh | exact lax_blk lax_rndh | exact lax_mid) rfl rfl rfl rfl (by omega) (by omega) (by kernel_rfl) ?_
      | refine so_pass (by first | exact lax_thn | exact lax_blk lax_thn | exact lax_rnd | exact lax_blk lax_rnd | exact lax_rndh | exact lax_blk lax_rndh | exact lax_mid) rfl rfl rfl (by kernel_rfl) ?_
      | refine so_arith tabOk (by first | exact lax_thn | exact lax_blk lax_thn | exact lax_rnd | exact lax_blk lax_rnd | exact lax_rndh | exact lax_blk lax_rndh | exact lax_mid) rfl rfl rfl rfl (by simp only [InR]; omega) (by kernel_rfl) ?_)
  refine so_single (by kernel_rfl) (th_call [3, 4] (by kernel_rfl) rfl rfl rfl rfl ent13 (hx_toRiver H14 hv1 hs1) ?_)
  rintro _ W15 ⟨pa15, ka15, pb15, kb15, pc15, kc15, rfl, H15⟩
  dsimp only [rvR, List.cons_append, List.nil_append] at H15
  refine ⟨H15.sub (by repeat (first | exact List.nil_sublist _ | refine List.Sublist.cons_cons _ ?_ | refine List.Sublist.cons _ ?_)), ?_⟩
  refine so_single (by kernel_rfl) (th_call [4] (by kernel_rfl) rfl rfl rfl rfl ent15 (hx_eqRiver H15 (Hp.rv (by assumption) (by repeat (first | exact List.Mem.head _ | apply List.Mem.tail)) (by repeat (first | exact List.Mem.head _ | apply List.Mem.tail)) (by repeat (first | exact List.Mem.head _ | apply List.Mem.tail))) (Hp.rv (by assumption) (by repeat (first | exact List.Mem.head _ | apply List.Mem.tail)) (by repeat (first | exact List.Mem.head _ | apply List.Mem.tail)) (by repeat (first | exact List.Mem.head _ | apply List.Mem.tail))) hs1) ?_)
  rintro _ W16 ⟨rfl, H16⟩
  refine ⟨H16.sub (by repeat (first | exact List.nil_sublist _ | refine List.Sublist.cons_cons _ ?_ | refine List.Sublist.cons _ ?_)), ?_⟩
  refine so_pure tabOk (by first | exact lax_thn | exact lax_blk lax_thn | exact lax_rnd | exact lax_blk lax_rnd | exact lax_rndh | exact lax_blk lax_rndh | exact lax_mid) rfl rfl rfl rfl (by kernel_rfl) ?_
  refine so_done ?_
  repeat' (first
      | refine s_pure tabOk rfl rfl rfl rfl ?_
      | refine aops_nil ?_
      | refine thn_normal ?_
      | refine aw_seq ?_
      | refine aw_regk 19 rfl ?_
      | refine s_pass rfl rfl rfl ?_
      | refine s_len tabOk rfl rfl rfl rfl ?_
      | refine aw_true rfl ?_
      | refine aw_false rfl ?_
      | refine aw_block ?_
      | refine aw_skip ?_
      | refine aw_exit ?_
      | refine blk_exit ?_
      | refine blk_exit_other rfl ?_
      | refine blk_normal ?_
      | refine thn_exit ?_
      | refine thn_ret ?_
      | refine blk_ret ?_
      | refine rnd_ret ?_
      | refine rnd_exit ?_
      | refine aw_ret ?_
      | refine s_arith tabOk rfl rfl rfl rfl (by simp only [InR]; omega) ?_
      | ((fail_if_success refine s_told rfl rfl ?_); refine s_part rfl rfl rfl ?_ ?_ <;> intro hc <;> (first | replace hc := of_decide_eq_true hc | replace hc := of_decide_eq_false hc | replace hc := eq_of_beq hc | simp only [Bool.not_eq_true', Bool.not_eq_false', Bool.and_eq_true, Bool.or_eq_true, Bool.or_eq_false_iff, Bool.not_true, Bool.not_false, decide_eq_true_eq, decide_eq_false_iff_not, Bool.and_eq_false_imp, bne_iff_ne, ne_eq, beq_iff_eq, beq_eq_false_iff_ne, bne_eq_false_iff_eq, bne_self_eq_false, not_true_eq_false, eq_self, Bool.true_eq_false, Bool.false_eq_true] at hc | skip))
      | (refine aw_if rfl ?_ ?_ <;> intro hc <;> (first | replace hc := of_decide_eq_true hc | replace hc := of_decide_eq_false hc | replace hc := eq_of_beq hc | simp only [Bool.not_eq_true', Bool.not_eq_false', Bool.and_eq_true, Bool.or_eq_true, Bool.or_eq_false_iff, Bool.not_true, Bool.not_false, decide_eq_true_eq, decide_eq_false_iff_not, Bool.and_eq_false_imp, bne_iff_ne, ne_eq, beq_iff_eq, beq_eq_false_iff_ne, bne_eq_false_iff_eq, bne_self_eq_false, not_true_eq_false, eq_self, Bool.true_eq_false, Bool.false_eq_true] at hc | skip))
      | refine s_index1n tabOk rfl rfl rfl rfl (by omega) ?_
      | refine s_indexn tabOk rfl rfl rfl rfl (by omega) ?_
      | refine s_index1 tabOk rfl rfl rfl rfl (by omega) (by omega) ?_
      | refine sh_load tabOk (by assumption) rfl rfl rfl rfl (by repeat (first | exact List.Mem.head _ | apply List.Mem.tail)) (by rfl) (by rfl) ?_
      | refine sh_loada tabOk (by assumption) rfl rfl rfl rfl (by repeat (first | exact List.Mem.head _ | apply List.Mem.tail)) (by rfl) ?_
      | (refine sh_box (by assumption) rfl rfl rfl rfl rfl rfl ?_; intro _ _ _)
      | (refine sh_alloc tabOk (by assumption) rfl rfl rfl rfl rfl rfl ?_; intro _ _ _)
      | (refine sh_store tabOk (by assumption) rfl rfl rfl rfl rfl rfl (by repeat (first | exact Upd.here | apply Upd.there)) (by rfl) ?_; intro _ _)
      | (refine sh_lit tabOk (by assumption) rfl rfl rfl rfl rfl rfl rfl rfl rfl rfl rfl ?_; intro _ _ _)
      | refine sh_build tabOk rfl rfl rfl rfl rfl rfl ?_
      | refine rndh_ret ?_
      | refine rndh_exit ?_)
  have n0 : 0 ≤ cntR r ∧ cntR r ≤ 6291456 := by obtain ⟨a1, a2, a3⟩ := hs0; unfold cntR; omega
  have n1 : 0 ≤ cntR s ∧ cntR s ≤ 6291456 := by obtain ⟨a1, a2, a3⟩ := hs1; unfold cntR; omega
  have n2 : 0 ≤ cntR z ∧ cntR z ≤ 6291456 := by obtain ⟨a1, a2, a3⟩ := hz; unfold cntR; omega
  refine s_call rfl rfl rfl rfl ent16 (hx_markRiver (by assumption) (by repeat (first | exact Upd.here | apply Upd.there)) (by repeat (first | exact Upd.here | apply Upd.there)) (by repeat (first | exact Upd.here | apply Upd.there)) hs0 (by omega) (by omega)) ?_
  rintro _ W17 ⟨rfl, H17⟩
  repeat' (first
      | refine s_pure tabOk rfl rfl rfl rfl ?_
      | refine aops_nil ?_
      | refine thn_normal ?_
      | refine aw_seq ?_
      | refine aw_regk 19 rfl ?_
      | refine s_pass rfl rfl rfl ?_
      | refine s_len tabOk rfl rfl rfl rfl ?_
      | refine aw_true rfl ?_
      | refine aw_false rfl ?_
      | refine aw_block ?_
      | refine aw_skip ?_
      | refine aw_exit ?_
      | refine blk_exit ?_
      | refine blk_exit_other rfl ?_
      | refine blk_normal ?_
      | refine thn_exit ?_
      | refine thn_ret ?_
      | refine blk_ret ?_
      | refine rnd_ret ?_
      | refine rnd_exit ?_
      | refine aw_ret ?_
      | refine s_arith tabOk rfl rfl rfl rfl (by simp only [InR]; omega) ?_
      | ((fail_if_success refine s_told rfl rfl ?_); refine s_part rfl rfl rfl ?_ ?_ <;> intro hc <;> (first | replace hc := of_decide_eq_true hc | replace hc := of_decide_eq_false hc | replace hc := eq_of_beq hc | simp only [Bool.not_eq_true', Bool.not_eq_false', Bool.and_eq_true, Bool.or_eq_true, Bool.or_eq_false_iff, Bool.not_true, Bool.not_false, decide_eq_true_eq, decide_eq_false_iff_not, Bool.and_eq_false_imp, bne_iff_ne, ne_eq, beq_iff_eq, beq_eq_false_iff_ne, bne_eq_false_iff_eq, bne_self_eq_false, not_true_eq_false, eq_self, Bool.true_eq_false, Bool.false_eq_true] at hc | skip))
      | (refine aw_if rfl ?_ ?_ <;> intro hc <;> (first | replace hc := of_decide_eq_true hc | replace hc := of_decide_eq_false hc | replace hc := eq_of_beq hc | simp only [Bool.not_eq_true', Bool.not_eq_false', Bool.and_eq_true, Bool.or_eq_true, Bool.or_eq_false_iff, Bool.not_true, Bool.not_false, decide_eq_true_eq, decide_eq_false_iff_not, Bool.and_eq_false_imp, bne_iff_ne, ne_eq, beq_iff_eq, beq_eq_false_iff_ne, bne_eq_false_iff_eq, bne_self_eq_false, not_true_eq_false, eq_self, Bool.true_eq_false, Bool.false_eq_true] at hc | skip))
      | refine s_index1n tabOk rfl rfl rfl rfl (by omega) ?_
      | refine s_indexn tabOk rfl rfl rfl rfl (by omega) ?_
      | refine s_index1 tabOk rfl rfl rfl rfl (by omega) (by omega) ?_
      | refine sh_load tabOk (by assumption) rfl rfl rfl rfl (by repeat (first | exact List.Mem.head _ | apply List.Mem.tail)) (by rfl) (by rfl) ?_
      | refine sh_loada tabOk (by assumption) rfl rfl rfl rfl (by repeat (first | exact List.Mem.head _ | apply List.Mem.tail)) (by rfl) ?_
      | (refine sh_box (by assumption) rfl rfl rfl rfl rfl rfl ?_; intro _ _ _)
      | (refine sh_alloc tabOk (by assumption) rfl rfl rfl rfl rfl rfl ?_; intro _ _ _)
      | (refine sh_store tabOk (by assumption) rfl rfl rfl rfl rfl rfl (by repeat (first | exact Upd.here | apply Upd.there)) (by rfl) ?_; intro _ _)
      | (refine sh_lit tabOk (by assumption) rfl rfl rfl rfl rfl rfl rfl rfl rfl rfl rfl ?_; intro _ _ _)
      | refine sh_build tabOk rfl rfl rfl rfl rfl rfl ?_
      | refine rndh_ret ?_
      | refine rndh_exit ?_)
  refine s_call rfl rfl rfl rfl ent16 (hx_markRiver (by assumption) (by repeat (first | exact Upd.here | apply Upd.there)) (by repeat (first | exact Upd.here | apply Upd.there)) (by repeat (first | exact Upd.here | apply Upd.there)) hs1 (by omega) (by omega)) ?_
  rintro _ W18 ⟨rfl, H18⟩
  repeat' (first
      | refine s_pure tabOk rfl rfl rfl rfl ?_
      | refine aops_nil ?_
      | refine thn_normal ?_
      | refine aw_seq ?_
      | refine aw_regk 19 rfl ?_
      | refine s_pass rfl rfl rfl ?_
      | refine s_len tabOk rfl rfl rfl rfl ?_
      | refine aw_true rfl ?_
      | refine aw_false rfl ?_
      | refine aw_block ?_
      | refine aw_skip ?_
      | refine aw_exit ?_
      | refine blk_exit ?_
      | refine blk_exit_other rfl ?_
      | refine blk_normal ?_
      | refine thn_exit ?_
      | refine thn_ret ?_
      | refine blk_ret ?_
      | refine rnd_ret ?_
      | refine rnd_exit ?_
      | refine aw_ret ?_
      | refine s_arith tabOk rfl rfl rfl rfl (by simp only [InR]; omega) ?_
      | ((fail_if_success refine s_told rfl rfl ?_); refine s_part rfl rfl rfl ?_ ?_ <;> intro hc <;> (first | replace hc := of_decide_eq_true hc | replace hc := of_decide_eq_false hc | replace hc := eq_of_beq hc | simp only [Bool.not_eq_true', Bool.not_eq_false', Bool.and_eq_true, Bool.or_eq_true, Bool.or_eq_false_iff, Bool.not_true, Bool.not_false, decide_eq_true_eq, decide_eq_false_iff_not, Bool.and_eq_false_imp, bne_iff_ne, ne_eq, beq_iff_eq, beq_eq_false_iff_ne, bne_eq_false_iff_eq, bne_self_eq_false, not_true_eq_false, eq_self, Bool.true_eq_false, Bool.false_eq_true] at hc | skip))
      | (refine aw_if rfl ?_ ?_ <;> intro hc <;> (first | replace hc := of_decide_eq_true hc | replace hc := of_decide_eq_false hc | replace hc := eq_of_beq hc | simp only [Bool.not_eq_true', Bool.not_eq_false', Bool.and_eq_true, Bool.or_eq_true, Bool.or_eq_false_iff, Bool.not_true, Bool.not_false, decide_eq_true_eq, decide_eq_false_iff_not, Bool.and_eq_false_imp, bne_iff_ne, ne_eq, beq_iff_eq, beq_eq_false_iff_ne, bne_eq_false_iff_eq, bne_self_eq_false, not_true_eq_false, eq_self, Bool.true_eq_false, Bool.false_eq_true] at hc | skip))
      | refine s_index1n tabOk rfl rfl rfl rfl (by omega) ?_
      | refine s_indexn tabOk rfl rfl rfl rfl (by omega) ?_
      | refine s_index1 tabOk rfl rfl rfl rfl (by omega) (by omega) ?_
      | refine sh_load tabOk (by assumption) rfl rfl rfl rfl (by repeat (first | exact List.Mem.head _ | apply List.Mem.tail)) (by rfl) (by rfl) ?_
      | refine sh_loada tabOk (by assumption) rfl rfl rfl rfl (by repeat (first | exact List.Mem.head _ | apply List.Mem.tail)) (by rfl) ?_
      | (refine sh_box (by assumption) rfl rfl rfl rfl rfl rfl ?_; intro _ _ _)
      | (refine sh_alloc tabOk (by assumption) rfl rfl rfl rfl rfl rfl ?_; intro _ _ _)
      | (refine sh_store tabOk (by assumption) rfl rfl rfl rfl rfl rfl (by repeat (first | exact Upd.here | apply Upd.there)) (by rfl) ?_; intro _ _)
      | (refine sh_lit tabOk (by assumption) rfl rfl rfl rfl rfl rfl rfl rfl rfl rfl rfl ?_; intro _ _ _)
      | refine sh_build tabOk rfl rfl rfl rfl rfl rfl ?_
      | refine rndh_ret ?_
      | refine rndh_exit ?_)
  all_goals try (exfalso; omega)
  refine s_call rfl rfl rfl rfl ent15 (hx_eqRiver (by assumption) (Hp.rv (by assumption) (by repeat (first | exact List.Mem.head _ | apply List.Mem.tail)) (by repeat (first | exact List.Mem.head _ | apply List.Mem.tail)) (by repeat (first | exact List.Mem.head _ | apply List.Mem.tail))) (Hp.rv (by assumption) (by repeat (first | exact List.Mem.head _ | apply List.Mem.tail)) (by repeat (first | exact List.Mem.head _ | apply List.Mem.tail)) (by repeat (first | exact List.Mem.head _ | apply List.Mem.tail))) hz) ?_
  rintro _ W19 ⟨rfl, H19⟩
  repeat' (first
      | refine s_pure tabOk rfl rfl rfl rfl ?_
      | refine aops_nil ?_
      | refine thn_normal ?_
      | refine aw_seq ?_
      | refine aw_regk 19 rfl ?_
      | refine s_pass rfl rfl rfl ?_
      | refine s_len tabOk rfl rfl rfl rfl ?_
      | refine aw_true rfl ?_
      | refine aw_false rfl ?_
      | refine aw_block ?_
      | refine aw_skip ?_
      | refine aw_exit ?_
      | refine blk_exit ?_
      | refine blk_exit_other rfl ?_
      | refine blk_normal ?_
      | refine thn_exit ?_
      | refine thn_ret ?_
      | refine blk_ret ?_
      | refine rnd_ret ?_
      | refine rnd_exit ?_
      | refine aw_ret ?_
      | refine s_arith tabOk rfl rfl rfl rfl (by simp only [InR]; omega) ?_
      | ((fail_if_success refine s_told rfl rfl ?_); refine s_part rfl rfl rfl ?_ ?_ <;> intro hc <;> (first | replace hc := of_decide_eq_true hc | replace hc := of_decide_eq_false hc | replace hc := eq_of_beq hc | simp only [Bool.not_eq_true', Bool.not_eq_false', Bool.and_eq_true, Bool.or_eq_true, Bool.or_eq_false_iff, Bool.not_true, Bool.not_false, decide_eq_true_eq, decide_eq_false_iff_not, Bool.and_eq_false_imp, bne_iff_ne, ne_eq, beq_iff_eq, beq_eq_false_iff_ne, bne_eq_false_iff_eq, bne_self_eq_false, not_true_eq_false, eq_self, Bool.true_eq_false, Bool.false_eq_true] at hc | skip))
      | (refine aw_if rfl ?_ ?_ <;> intro hc <;> (first | replace hc := of_decide_eq_true hc | replace hc := of_decide_eq_false hc | replace hc := eq_of_beq hc | simp only [Bool.not_eq_true', Bool.not_eq_false', Bool.and_eq_true, Bool.or_eq_true, Bool.or_eq_false_iff, Bool.not_true, Bool.not_false, decide_eq_true_eq, decide_eq_false_iff_not, Bool.and_eq_false_imp, bne_iff_ne, ne_eq, beq_iff_eq, beq_eq_false_iff_ne, bne_eq_false_iff_eq, bne_self_eq_false, not_true_eq_false, eq_self, Bool.true_eq_false, Bool.false_eq_true] at hc | skip))
      | refine s_index1n tabOk rfl rfl rfl rfl (by omega) ?_
      | refine s_indexn tabOk rfl rfl rfl rfl (by omega) ?_
      | refine s_index1 tabOk rfl rfl rfl rfl (by omega) (by omega) ?_
      | refine sh_load tabOk (by assumption) rfl rfl rfl rfl (by repeat (first | exact List.Mem.head _ | apply List.Mem.tail)) (by rfl) (by rfl) ?_
      | refine sh_loada tabOk (by assumption) rfl rfl rfl rfl (by repeat (first | exact List.Mem.head _ | apply List.Mem.tail)) (by rfl) ?_
      | (refine sh_box (by assumption) rfl rfl rfl rfl rfl rfl ?_; intro _ _ _)
      | (refine sh_alloc tabOk (by assumption) rfl rfl rfl rfl rfl rfl ?_; intro _ _ _)
      | (refine sh_store tabOk (by assumption) rfl rfl rfl rfl rfl rfl (by repeat (first | exact Upd.here | apply Upd.there)) (by rfl) ?_; intro _ _)
      | (refine sh_lit tabOk (by assumption) rfl rfl rfl rfl rfl rfl rfl rfl rfl rfl rfl ?_; intro _ _ _)
      | refine sh_build tabOk rfl rfl rfl rfl rfl rfl ?_
      | refine rndh_ret ?_
      | refine rndh_exit ?_)
  refine s_call rfl rfl rfl rfl ent16 (hx_markRiver (by assumption) (by repeat (first | exact Upd.here | apply Upd.there)) (by repeat (first | exact Upd.here | apply Upd.there)) (by repeat (first | exact Upd.here | apply Upd.there)) hz (by omega) (by omega)) ?_
  rintro _ W20 ⟨rfl, H20⟩
  repeat' (first
      | refine s_pure tabOk rfl rfl rfl rfl ?_
      | refine aops_nil ?_
      | refine thn_normal ?_
      | refine aw_seq ?_
      | refine aw_regk 19 rfl ?_
      | refine s_pass rfl rfl rfl ?_
      | refine s_len tabOk rfl rfl rfl rfl ?_
      | refine aw_true rfl ?_
      | refine aw_false rfl ?_
      | refine aw_block ?_
      | refine aw_skip ?_
      | refine aw_exit ?_
      | refine blk_exit ?_
      | refine blk_exit_other rfl ?_
      | refine blk_normal ?_
      | refine thn_exit ?_
      | refine thn_ret ?_
      | refine blk_ret ?_
      | refine rnd_ret ?_
      | refine rnd_exit ?_
      | refine aw_ret ?_
      | refine s_arith tabOk rfl rfl rfl rfl (by simp only [InR]; omega) ?_
      | ((fail_if_success refine s_told rfl rfl ?_); refine s_part rfl rfl rfl ?_ ?_ <;> intro hc <;> (first | replace hc := of_decide_eq_true hc | replace hc := of_decide_eq_false hc | replace hc := eq_of_beq hc | simp only [Bool.not_eq_true', Bool.not_eq_false', Bool.and_eq_true, Bool.or_eq_true, Bool.or_eq_false_iff, Bool.not_true, Bool.not_false, decide_eq_true_eq, decide_eq_false_iff_not, Bool.and_eq_false_imp, bne_iff_ne, ne_eq, beq_iff_eq, beq_eq_false_iff_ne, bne_eq_false_iff_eq, bne_self_eq_false, not_true_eq_false, eq_self, Bool.true_eq_false, Bool.false_eq_true] at hc | skip))
      | (refine aw_if rfl ?_ ?_ <;> intro hc <;> (first | replace hc := of_decide_eq_true hc | replace hc := of_decide_eq_false hc | replace hc := eq_of_beq hc | simp only [Bool.not_eq_true', Bool.not_eq_false', Bool.and_eq_true, Bool.or_eq_true, Bool.or_eq_false_iff, Bool.not_true, Bool.not_false, decide_eq_true_eq, decide_eq_false_iff_not, Bool.and_eq_false_imp, bne_iff_ne, ne_eq, beq_iff_eq, beq_eq_false_iff_ne, bne_eq_false_iff_eq, bne_self_eq_false, not_true_eq_false, eq_self, Bool.true_eq_false, Bool.false_eq_true] at hc | skip))
      | refine s_index1n tabOk rfl rfl rfl rfl (by omega) ?_
      | refine s_indexn tabOk rfl rfl rfl rfl (by omega) ?_
      | refine s_index1 tabOk rfl rfl rfl rfl (by omega) (by omega) ?_
      | refine sh_load tabOk (by assumption) rfl rfl rfl rfl (by repeat (first | exact List.Mem.head _ | apply List.Mem.tail)) (by rfl) (by rfl) ?_
      | refine sh_loada tabOk (by assumption) rfl rfl rfl rfl (by repeat (first | exact List.Mem.head _ | apply List.Mem.tail)) (by rfl) ?_
      | (refine sh_box (by assumption) rfl rfl rfl rfl rfl rfl ?_; intro _ _ _)
      | (refine sh_alloc tabOk (by assumption) rfl rfl rfl rfl rfl rfl ?_; intro _ _ _)
      | (refine sh_store tabOk (by assumption) rfl rfl rfl rfl rfl rfl (by repeat (first | exact Upd.here | apply Upd.there)) (by rfl) ?_; intro _ _)
      | (refine sh_lit tabOk (by assumption) rfl rfl rfl rfl rfl rfl rfl rfl rfl rfl rfl ?_; intro _ _ _)
      | refine sh_build tabOk rfl rfl rfl rfl rfl rfl ?_
      | refine rndh_ret ?_
      | refine rndh_exit ?_)
  refine s_call rfl rfl rfl rfl ent17 (hx_heldRiver (by assumption) (by repeat (first | exact List.Mem.head _ | apply List.Mem.tail)) (by repeat (first | exact List.Mem.head _ | apply List.Mem.tail)) (by repeat (first | exact List.Mem.head _ | apply List.Mem.tail)) hz (by omega) (by omega)) ?_
  rintro _ W21 ⟨rfl, H21⟩
  repeat' (first
      | refine s_pure tabOk rfl rfl rfl rfl ?_
      | refine aops_nil ?_
      | refine thn_normal ?_
      | refine aw_seq ?_
      | refine aw_regk 19 rfl ?_
      | refine s_pass rfl rfl rfl ?_
      | refine s_len tabOk rfl rfl rfl rfl ?_
      | refine aw_true rfl ?_
      | refine aw_false rfl ?_
      | refine aw_block ?_
      | refine aw_skip ?_
      | refine aw_exit ?_
      | refine blk_exit ?_
      | refine blk_exit_other rfl ?_
      | refine blk_normal ?_
      | refine thn_exit ?_
      | refine thn_ret ?_
      | refine blk_ret ?_
      | refine rnd_ret ?_
      | refine rnd_exit ?_
      | refine aw_ret ?_
      | refine s_arith tabOk rfl rfl rfl rfl (by simp only [InR]; omega) ?_
      | ((fail_if_success refine s_told rfl rfl ?_); refine s_part rfl rfl rfl ?_ ?_ <;> intro hc <;> (first | replace hc := of_decide_eq_true hc | replace hc := of_decide_eq_false hc | replace hc := eq_of_beq hc | simp only [Bool.not_eq_true', Bool.not_eq_false', Bool.and_eq_true, Bool.or_eq_true, Bool.or_eq_false_iff, Bool.not_true, Bool.not_false, decide_eq_true_eq, decide_eq_false_iff_not, Bool.and_eq_false_imp, bne_iff_ne, ne_eq, beq_iff_eq, beq_eq_false_iff_ne, bne_eq_false_iff_eq, bne_self_eq_false, not_true_eq_false, eq_self, Bool.true_eq_false, Bool.false_eq_true] at hc | skip))
      | (refine aw_if rfl ?_ ?_ <;> intro hc <;> (first | replace hc := of_decide_eq_true hc | replace hc := of_decide_eq_false hc | replace hc := eq_of_beq hc | simp only [Bool.not_eq_true', Bool.not_eq_false', Bool.and_eq_true, Bool.or_eq_true, Bool.or_eq_false_iff, Bool.not_true, Bool.not_false, decide_eq_true_eq, decide_eq_false_iff_not, Bool.and_eq_false_imp, bne_iff_ne, ne_eq, beq_iff_eq, beq_eq_false_iff_ne, bne_eq_false_iff_eq, bne_self_eq_false, not_true_eq_false, eq_self, Bool.true_eq_false, Bool.false_eq_true] at hc | skip))
      | refine s_index1n tabOk rfl rfl rfl rfl (by omega) ?_
      | refine s_indexn tabOk rfl rfl rfl rfl (by omega) ?_
      | refine s_index1 tabOk rfl rfl rfl rfl (by omega) (by omega) ?_
      | refine sh_load tabOk (by assumption) rfl rfl rfl rfl (by repeat (first | exact List.Mem.head _ | apply List.Mem.tail)) (by rfl) (by rfl) ?_
      | refine sh_loada tabOk (by assumption) rfl rfl rfl rfl (by repeat (first | exact List.Mem.head _ | apply List.Mem.tail)) (by rfl) ?_
      | (refine sh_box (by assumption) rfl rfl rfl rfl rfl rfl ?_; intro _ _ _)
      | (refine sh_alloc tabOk (by assumption) rfl rfl rfl rfl rfl rfl ?_; intro _ _ _)
      | (refine sh_store tabOk (by assumption) rfl rfl rfl rfl rfl rfl (by repeat (first | exact Upd.here | apply Upd.there)) (by rfl) ?_; intro _ _)
      | (refine sh_lit tabOk (by assumption) rfl rfl rfl rfl rfl rfl rfl rfl rfl rfl rfl ?_; intro _ _ _)
      | refine sh_build tabOk rfl rfl rfl rfl rfl rfl ?_
      | refine rndh_ret ?_
      | refine rndh_exit ?_)
  all_goals try (exfalso; omega)
  refine aw_cut (A := W) (fun x : Option Addr × Nat × Option Addr × Nat × Option Addr × Nat × Nat => [(6, .bool false), (9, .bool ok), (14, .int .i64 (1 + cntR r + cntR s)), (15, .int .i64 (1 + cntR z)), (16, .int .i64 (1 + cntR z)), (8, .pointer (some ⟨b8, 0, none⟩)), (12, .pointer (some ⟨b12, 0, none⟩)), (17, .pointer (some ⟨x.2.2.2.2.2.2, 0, none⟩)), (18, .bool ok)])
    (fun x => [.row 2 1 (.slice x.1 z.ds.length x.2.1) z.ds.length (iC z.ds), .row 75 4 (.slice x.2.2.1 z.dm.length x.2.2.2.1) z.dm.length (dCs z.dm), .row 2 1 (.slice x.2.2.2.2.1 z.ws.length x.2.2.2.2.2.1) z.ws.length (iC z.ws), .blk x.2.2.2.2.2.2 [.slice x.1 z.ds.length x.2.1, .slice x.2.2.1 z.dm.length x.2.2.2.1, .slice x.2.2.2.2.1 z.ws.length x.2.2.2.2.2.1] 29, .row 2 1 (.slice pa11 z.ds.length ka11) z.ds.length (iC (mkR 1 z).ds), .row 75 4 (.slice pb11 z.dm.length kb11) z.dm.length (dCs (mkR 1 z).dm), .row 2 1 (.slice pc11 z.ws.length kc11) z.ws.length (iC (mkR 1 z).ws), .blk b12 (rvC pa11 ka11 pb11 kb11 pc11 kc11 z) 29,
      .row 2 1 (.slice pd z.ds.length kd) z.ds.length (iC z.ds), .row 75 4 (.slice pe z.dm.length ke) z.dm.length (dCs z.dm), .row 2 1 (.slice pf z.ws.length kf) z.ws.length (iC z.ws), .blk b8 (rvC pd kd pe ke pf kf z) 29]) ?_ ?_
  · refine aw_trim 19 rfl ?_
    refine aw_told followsMixed (DH _ _ _) [0, 2, 4, 1, 9, 3, 5, 6, 7, 8, 10, 11] (by kernel_rfl) H21 ?_
    repeat (first
      | refine so_pure tabOk lax_mid rfl rfl rfl rfl (by kernel_rfl) ?_
      | refine so_load' tabOk lax_mid rfl rfl rfl rfl (by repeat (first | exact List.Mem.head _ | apply List.Mem.tail)) (by rfl) (by rfl) (by kernel_rfl) ?_
      | refine so_loada' tabOk lax_mid rfl rfl rfl rfl (by repeat (first | exact List.Mem.head _ | apply List.Mem.tail)) (by rfl) (by kernel_rfl) ?_
      | refine so_len tabOk lax_mid rfl rfl rfl rfl (by kernel_rfl) ?_
      | refine so_build' tabOk lax_mid rfl rfl rfl rfl rfl rfl (by kernel_rfl) ?_
      | refine so_index1n tabOk lax_mid rfl rfl rfl rfl (by omega) (by kernel_rfl) ?_
      | refine so_indexn tabOk lax_mid rfl rfl rfl rfl (by omega) (by kernel_rfl) ?_
      | refine so_index1 tabOk lax_mid rfl rfl rfl rfl (by omega) (by omega) (by kernel_rfl) ?_
      | refine so_pass lax_mid rfl rfl rfl (by kernel_rfl) ?_
      | refine so_arith tabOk lax_mid rfl rfl rfl rfl (by simp only [InR]; omega) (by kernel_rfl) ?_)
    refine so_all [1, 9] (by kernel_rfl) (x_one ?_ (x_one ?_ x_none))
    · refine th_call [3, 9, 5, 6, 7, 8, 10, 11] (by kernel_rfl) rfl rfl rfl rfl ent13 (hx_toRiver (by assumption) hv0 hs0) ?_
      rintro _ W1 ⟨pa1, ka1, pb1, kb1, pc1, kc1, rfl, H1⟩
      dsimp only [rvR, List.cons_append, List.nil_append] at H1
      refine ⟨Hp.sub H1 (by repeat (first | exact List.nil_sublist _ | refine List.Sublist.cons_cons _ ?_ | refine List.Sublist.cons _ ?_)), ?_⟩
      refine so_all [3, 9] (by kernel_rfl) (x_one ?_ (x_one ?_ x_none))
      · refine th_call [5, 9, 6, 7, 8, 10, 11] (by kernel_rfl) rfl rfl rfl rfl ent13 (hx_toRiver (by assumption) hv1 hs1) ?_
        rintro _ W3 ⟨pa3, ka3, pb3, kb3, pc3, kc3, rfl, H3⟩
        dsimp only [rvR, List.cons_append, List.nil_append] at H3
        refine ⟨Hp.sub H3 (by repeat (first | exact List.nil_sublist _ | refine List.Sublist.cons_cons _ ?_ | refine List.Sublist.cons _ ?_)), ?_⟩
        refine so_all [5, 9] (by kernel_rfl) (x_one ?_ (x_one ?_ x_none))
        · refine th_call [6, 7, 8, 9, 10, 11] (by kernel_rfl) rfl rfl rfl rfl ent14 (impl (by assumption) (Hp.rv (by assumption) (by repeat (first | exact List.Mem.head _ | apply List.Mem.tail)) (by repeat (first | exact List.Mem.head _ | apply List.Mem.tail)) (by repeat (first | exact List.Mem.head _ | apply List.Mem.tail))) (Hp.rv (by assumption) (by repeat (first | exact List.Mem.head _ | apply List.Mem.tail)) (by repeat (first | exact List.Mem.head _ | apply List.Mem.tail)) (by repeat (first | exact List.Mem.head _ | apply List.Mem.tail)))) ?_
          rintro _ W5 ⟨pd, kd, pe, ke, pf, kf, rfl, g5⟩
          have H5 := Hp.call3 (by assumption) g5
          refine ⟨Hp.sub H5 (by repeat (first | exact List.nil_sublist _ | refine List.Sublist.cons_cons _ ?_ | refine List.Sublist.cons _ ?_)), ?_⟩
          repeat (first
      | refine so_pure tabOk lax_mid rfl rfl rfl rfl (by kernel_rfl) ?_
      | refine so_load' tabOk lax_mid rfl rfl rfl rfl (by repeat (first | exact List.Mem.head _ | apply List.Mem.tail)) (by rfl) (by rfl) (by kernel_rfl) ?_
      | refine so_loada' tabOk lax_mid rfl rfl rfl rfl (by repeat (first | exact List.Mem.head _ | apply List.Mem.tail)) (by rfl) (by kernel_rfl) ?_
      | refine so_len tabOk lax_mid rfl rfl rfl rfl (by kernel_rfl) ?_
      | refine so_build' tabOk lax_mid rfl rfl rfl rfl rfl rfl (by kernel_rfl) ?_
      | refine so_index1n tabOk lax_mid rfl rfl rfl rfl (by omega) (by kernel_rfl) ?_
      | refine so_indexn tabOk lax_mid rfl rfl rfl rfl (by omega) (by kernel_rfl) ?_
      | refine so_index1 tabOk lax_mid rfl rfl rfl rfl (by omega) (by omega) (by kernel_rfl) ?_
      | refine so_pass lax_mid rfl rfl rfl (by kernel_rfl) ?_
      | refine so_arith tabOk lax_mid rfl rfl rfl rfl (by simp only [InR]; omega) (by kernel_rfl) ?_)
          refine so_single (by kernel_rfl) (th_alloc tabOk (by assumption) [10, 11] (by kernel_rfl) rfl rfl rfl rfl rfl rfl (fun _ => (by repeat (first | exact List.nil_sublist _ | refine List.Sublist.cons_cons _ ?_ | refine List.Sublist.cons _ ?_))) ?_)
          intro b9 W9 H9
          refine so_single (by kernel_rfl) (th_store tabOk (by assumption) (by simp [cv, Cn.c1, cl]) [11] (by kernel_rfl) rfl rfl rfl rfl rfl rfl (by repeat (first | exact Upd.here | apply Upd.there)) (by rfl) (by repeat (first | exact List.nil_sublist _ | refine List.Sublist.cons_cons _ ?_ | refine List.Sublist.cons _ ?_)) ?_)
          intro W10 H10
          repeat (first
      | refine so_pure tabOk lax_mid rfl rfl rfl rfl (by kernel_rfl) ?_
      | refine so_load' tabOk lax_mid rfl rfl rfl rfl (by repeat (first | exact List.Mem.head _ | apply List.Mem.tail)) (by rfl) (by rfl) (by kernel_rfl) ?_
      | refine so_loada' tabOk lax_mid rfl rfl rfl rfl (by repeat (first | exact List.Mem.head _ | apply List.Mem.tail)) (by rfl) (by kernel_rfl) ?_
      | refine so_len tabOk lax_mid rfl rfl rfl rfl (by kernel_rfl) ?_
      | refine so_build' tabOk lax_mid rfl rfl rfl rfl rfl rfl (by kernel_rfl) ?_
      | refine so_index1n tabOk lax_mid rfl rfl rfl rfl (by omega) (by kernel_rfl) ?_
      | refine so_indexn tabOk lax_mid rfl rfl rfl rfl (by omega) (by kernel_rfl) ?_
      | refine so_index1 tabOk lax_mid rfl rfl rfl rfl (by omega) (by omega) (by kernel_rfl) ?_
      | refine so_pass lax_mid rfl rfl rfl (by kernel_rfl) ?_
      | refine so_arith tabOk lax_mid rfl rfl rfl rfl (by simp only [InR]; omega) (by kernel_rfl) ?_)
          refine so_done ?_
          exact mid_done (pd, kd, pe, ke, pf, kf, b9) (by dsimp only; exact (by repeat (first | exact less_nil | refine less_cons rfl ?_))) (by dsimp only; exact Hp.picks (by assumption) (by repeat (first | exact Picks.nil | (apply Picks.cons; (repeat (first | exact Pick.here | apply Pick.there))))))
        · refine th_alloc tabOk (by assumption) [5, 6, 7, 8, 10, 11] (by kernel_rfl) rfl rfl rfl rfl rfl rfl (fun _ => (by repeat (first | exact List.nil_sublist _ | refine List.Sublist.cons_cons _ ?_ | refine List.Sublist.cons _ ?_))) ?_
          intro b9 W9 H9
          refine so_single (by kernel_rfl) (th_call [6, 7, 8, 10, 11] (by kernel_rfl) rfl rfl rfl rfl ent14 (impl (by assumption) (Hp.rv (by assumption) (by repeat (first | exact List.Mem.head _ | apply List.Mem.tail)) (by repeat (first | exact List.Mem.head _ | apply List.Mem.tail)) (by repeat (first | exact List.Mem.head _ | apply List.Mem.tail))) (Hp.rv (by assumption) (by repeat (first | exact List.Mem.head _ | apply List.Mem.tail)) (by repeat (first | exact List.Mem.head _ | apply List.Mem.tail)) (by repeat (first | exact List.Mem.head _ | apply List.Mem.tail)))) ?_)
          rintro _ W5 ⟨pd, kd, pe, ke, pf, kf, rfl, g5⟩
          have H5 := Hp.call3 (by assumption) g5
          refine ⟨Hp.sub H5 (by repeat (first | exact List.nil_sublist _ | refine List.Sublist.cons_cons _ ?_ | refine List.Sublist.cons _ ?_)), ?_⟩
          repeat (first
      | refine so_pure tabOk lax_mid rfl rfl rfl rfl (by kernel_rfl) ?_
      | refine so_load' tabOk lax_mid rfl rfl rfl rfl (by repeat (first | exact List.Mem.head _ | apply List.Mem.tail)) (by rfl) (by rfl) (by kernel_rfl) ?_
      | refine so_loada' tabOk lax_mid rfl rfl rfl rfl (by repeat (first | exact List.Mem.head _ | apply List.Mem.tail)) (by rfl) (by kernel_rfl) ?_
      | refine so_len tabOk lax_mid rfl rfl rfl rfl (by kernel_rfl) ?_
      | refine so_build' tabOk lax_mid rfl rfl rfl rfl rfl rfl (by kernel_rfl) ?_
      | refine so_index1n tabOk lax_mid rfl rfl rfl rfl (by omega) (by kernel_rfl) ?_
      | refine so_indexn tabOk lax_mid rfl rfl rfl rfl (by omega) (by kernel_rfl) ?_
      | refine so_index1 tabOk lax_mid rfl rfl rfl rfl (by omega) (by omega) (by kernel_rfl) ?_
      | refine so_pass lax_mid rfl rfl rfl (by kernel_rfl) ?_
      | refine so_arith tabOk lax_mid rfl rfl rfl rfl (by simp only [InR]; omega) (by kernel_rfl) ?_)
          refine so_single (by kernel_rfl) (th_store tabOk (by assumption) (by simp [cv, Cn.c1, cl]) [11] (by kernel_rfl) rfl rfl rfl rfl rfl rfl (by repeat (first | exact Upd.here | apply Upd.there)) (by rfl) (by repeat (first | exact List.nil_sublist _ | refine List.Sublist.cons_cons _ ?_ | refine List.Sublist.cons _ ?_)) ?_)
          intro W10 H10
          repeat (first
      | refine so_pure tabOk lax_mid rfl rfl rfl rfl (by kernel_rfl) ?_
      | refine so_load' tabOk lax_mid rfl rfl rfl rfl (by repeat (first | exact List.Mem.head _ | apply List.Mem.tail)) (by rfl) (by rfl) (by kernel_rfl) ?_
      | refine so_loada' tabOk lax_mid rfl rfl rfl rfl (by repeat (first | exact List.Mem.head _ | apply List.Mem.tail)) (by rfl) (by kernel_rfl) ?_
      | refine so_len tabOk lax_mid rfl rfl rfl rfl (by kernel_rfl) ?_
      | refine so_build' tabOk lax_mid rfl rfl rfl rfl rfl rfl (by kernel_rfl) ?_
      | refine so_index1n tabOk lax_mid rfl rfl rfl rfl (by omega) (by kernel_rfl) ?_
      | refine so_indexn tabOk lax_mid rfl rfl rfl rfl (by omega) (by kernel_rfl) ?_
      | refine so_index1 tabOk lax_mid rfl rfl rfl rfl (by omega) (by omega) (by kernel_rfl) ?_
      | refine so_pass lax_mid rfl rfl rfl (by kernel_rfl) ?_
      | refine so_arith tabOk lax_mid rfl rfl rfl rfl (by simp only [InR]; omega) (by kernel_rfl) ?_)
          refine so_done ?_
          exact mid_done (pd, kd, pe, ke, pf, kf, b9) (by dsimp only; exact (by repeat (first | exact less_nil | refine less_cons rfl ?_))) (by dsimp only; exact Hp.picks (by assumption) (by repeat (first | exact Picks.nil | (apply Picks.cons; (repeat (first | exact Pick.here | apply Pick.there))))))
      · refine th_alloc tabOk (by assumption) [3, 5, 6, 7, 8, 10, 11] (by kernel_rfl) rfl rfl rfl rfl rfl rfl (fun _ => (by repeat (first | exact List.nil_sublist _ | refine List.Sublist.cons_cons _ ?_ | refine List.Sublist.cons _ ?_))) ?_
        intro b9 W9 H9
        refine so_single (by kernel_rfl) (th_call [5, 6, 7, 8, 10, 11] (by kernel_rfl) rfl rfl rfl rfl ent13 (hx_toRiver (by assumption) hv1 hs1) ?_)
        rintro _ W3 ⟨pa3, ka3, pb3, kb3, pc3, kc3, rfl, H3⟩
        dsimp only [rvR, List.cons_append, List.nil_append] at H3
        refine ⟨Hp.sub H3 (by repeat (first | exact List.nil_sublist _ | refine List.Sublist.cons_cons _ ?_ | refine List.Sublist.cons _ ?_)), ?_⟩
        refine so_single (by kernel_rfl) (th_call [6, 7, 8, 10, 11] (by kernel_rfl) rfl rfl rfl rfl ent14 (impl (by assumption) (Hp.rv (by assumption) (by repeat (first | exact List.Mem.head _ | apply List.Mem.tail)) (by repeat (first | exact List.Mem.head _ | apply List.Mem.tail)) (by repeat (first | exact List.Mem.head _ | apply List.Mem.tail))) (Hp.rv (by assumption) (by repeat (first | exact List.Mem.head _ | apply List.Mem.tail)) (by repeat (first | exact List.Mem.head _ | apply List.Mem.tail)) (by repeat (first | exact List.Mem.head _ | apply List.Mem.tail)))) ?_)
        rintro _ W5 ⟨pd, kd, pe, ke, pf, kf, rfl, g5⟩
        have H5 := Hp.call3 (by assumption) g5
        refine ⟨Hp.sub H5 (by repeat (first | exact List.nil_sublist _ | refine List.Sublist.cons_cons _ ?_ | refine List.Sublist.cons _ ?_)), ?_⟩
        repeat (first
      | refine so_pure tabOk lax_mid rfl rfl rfl rfl (by kernel_rfl) ?_
      | refine so_load' tabOk lax_mid rfl rfl rfl rfl (by repeat (first | exact List.Mem.head _ | apply List.Mem.tail)) (by rfl) (by rfl) (by kernel_rfl) ?_
      | refine so_loada' tabOk lax_mid rfl rfl rfl rfl (by repeat (first | exact List.Mem.head _ | apply List.Mem.tail)) (by rfl) (by kernel_rfl) ?_
      | refine so_len tabOk lax_mid rfl rfl rfl rfl (by kernel_rfl) ?_
      | refine so_build' tabOk lax_mid rfl rfl rfl rfl rfl rfl (by kernel_rfl) ?_
      | refine so_index1n tabOk lax_mid rfl rfl rfl rfl (by omega) (by kernel_rfl) ?_
      | refine so_indexn tabOk lax_mid rfl rfl rfl rfl (by omega) (by kernel_rfl) ?_
      | refine so_index1 tabOk lax_mid rfl rfl rfl rfl (by omega) (by omega) (by kernel_rfl) ?_
      | refine so_pass lax_mid rfl rfl rfl (by kernel_rfl) ?_
      | refine so_arith tabOk lax_mid rfl rfl rfl rfl (by simp only [InR]; omega) (by kernel_rfl) ?_)
        refine so_single (by kernel_rfl) (th_store tabOk (by assumption) (by simp [cv, Cn.c1, cl]) [11] (by kernel_rfl) rfl rfl rfl rfl rfl rfl (by repeat (first | exact Upd.here | apply Upd.there)) (by rfl) (by repeat (first | exact List.nil_sublist _ | refine List.Sublist.cons_cons _ ?_ | refine List.Sublist.cons _ ?_)) ?_)
        intro W10 H10
        repeat (first
      | refine so_pure tabOk lax_mid rfl rfl rfl rfl (by kernel_rfl) ?_
      | refine so_load' tabOk lax_mid rfl rfl rfl rfl (by repeat (first | exact List.Mem.head _ | apply List.Mem.tail)) (by rfl) (by rfl) (by kernel_rfl) ?_
      | refine so_loada' tabOk lax_mid rfl rfl rfl rfl (by repeat (first | exact List.Mem.head _ | apply List.Mem.tail)) (by rfl) (by kernel_rfl) ?_
      | refine so_len tabOk lax_mid rfl rfl rfl rfl (by kernel_rfl) ?_
      | refine so_build' tabOk lax_mid rfl rfl rfl rfl rfl rfl (by kernel_rfl) ?_
      | refine so_index1n tabOk lax_mid rfl rfl rfl rfl (by omega) (by kernel_rfl) ?_
      | refine so_indexn tabOk lax_mid rfl rfl rfl rfl (by omega) (by kernel_rfl) ?_
      | refine so_index1 tabOk lax_mid rfl rfl rfl rfl (by omega) (by omega) (by kernel_rfl) ?_
      | refine so_pass lax_mid rfl rfl rfl (by kernel_rfl) ?_
      | refine so_arith tabOk lax_mid rfl rfl rfl rfl (by simp only [InR]; omega) (by kernel_rfl) ?_)
        refine so_done ?_
        exact mid_done (pd, kd, pe, ke, pf, kf, b9) (by dsimp only; exact (by repeat (first | exact less_nil | refine less_cons rfl ?_))) (by dsimp only; exact Hp.picks (by assumption) (by repeat (first | exact Picks.nil | (apply Picks.cons; (repeat (first | exact Pick.here | apply Pick.there))))))
    · refine th_alloc tabOk (by assumption) [1, 3, 5, 6, 7, 8, 10, 11] (by kernel_rfl) rfl rfl rfl rfl rfl rfl (fun _ => (by repeat (first | exact List.nil_sublist _ | refine List.Sublist.cons_cons _ ?_ | refine List.Sublist.cons _ ?_))) ?_
      intro b9 W9 H9
      refine so_single (by kernel_rfl) (th_call [3, 5, 6, 7, 8, 10, 11] (by kernel_rfl) rfl rfl rfl rfl ent13 (hx_toRiver (by assumption) hv0 hs0) ?_)
      rintro _ W1 ⟨pa1, ka1, pb1, kb1, pc1, kc1, rfl, H1⟩
      dsimp only [rvR, List.cons_append, List.nil_append] at H1
      refine ⟨Hp.sub H1 (by repeat (first | exact List.nil_sublist _ | refine List.Sublist.cons_cons _ ?_ | refine List.Sublist.cons _ ?_)), ?_⟩
      refine so_single (by kernel_rfl) (th_call [5, 6, 7, 8, 10, 11] (by kernel_rfl) rfl rfl rfl rfl ent13 (hx_toRiver (by assumption) hv1 hs1) ?_)
      rintro _ W3 ⟨pa3, ka3, pb3, kb3, pc3, kc3, rfl, H3⟩
      dsimp only [rvR, List.cons_append, List.nil_append] at H3
      refine ⟨Hp.sub H3 (by repeat (first | exact List.nil_sublist _ | refine List.Sublist.cons_cons _ ?_ | refine List.Sublist.cons _ ?_)), ?_⟩
      refine so_single (by kernel_rfl) (th_call [6, 7, 8, 10, 11] (by kernel_rfl) rfl rfl rfl rfl ent14 (impl (by assumption) (Hp.rv (by assumption) (by repeat (first | exact List.Mem.head _ | apply List.Mem.tail)) (by repeat (first | exact List.Mem.head _ | apply List.Mem.tail)) (by repeat (first | exact List.Mem.head _ | apply List.Mem.tail))) (Hp.rv (by assumption) (by repeat (first | exact List.Mem.head _ | apply List.Mem.tail)) (by repeat (first | exact List.Mem.head _ | apply List.Mem.tail)) (by repeat (first | exact List.Mem.head _ | apply List.Mem.tail)))) ?_)
      rintro _ W5 ⟨pd, kd, pe, ke, pf, kf, rfl, g5⟩
      have H5 := Hp.call3 (by assumption) g5
      refine ⟨Hp.sub H5 (by repeat (first | exact List.nil_sublist _ | refine List.Sublist.cons_cons _ ?_ | refine List.Sublist.cons _ ?_)), ?_⟩
      repeat (first
      | refine so_pure tabOk lax_mid rfl rfl rfl rfl (by kernel_rfl) ?_
      | refine so_load' tabOk lax_mid rfl rfl rfl rfl (by repeat (first | exact List.Mem.head _ | apply List.Mem.tail)) (by rfl) (by rfl) (by kernel_rfl) ?_
      | refine so_loada' tabOk lax_mid rfl rfl rfl rfl (by repeat (first | exact List.Mem.head _ | apply List.Mem.tail)) (by rfl) (by kernel_rfl) ?_
      | refine so_len tabOk lax_mid rfl rfl rfl rfl (by kernel_rfl) ?_
      | refine so_build' tabOk lax_mid rfl rfl rfl rfl rfl rfl (by kernel_rfl) ?_
      | refine so_index1n tabOk lax_mid rfl rfl rfl rfl (by omega) (by kernel_rfl) ?_
      | refine so_indexn tabOk lax_mid rfl rfl rfl rfl (by omega) (by kernel_rfl) ?_
      | refine so_index1 tabOk lax_mid rfl rfl rfl rfl (by omega) (by omega) (by kernel_rfl) ?_
      | refine so_pass lax_mid rfl rfl rfl (by kernel_rfl) ?_
      | refine so_arith tabOk lax_mid rfl rfl rfl rfl (by simp only [InR]; omega) (by kernel_rfl) ?_)
      refine so_single (by kernel_rfl) (th_store tabOk (by assumption) (by simp [cv, Cn.c1, cl]) [11] (by kernel_rfl) rfl rfl rfl rfl rfl rfl (by repeat (first | exact Upd.here | apply Upd.there)) (by rfl) (by repeat (first | exact List.nil_sublist _ | refine List.Sublist.cons_cons _ ?_ | refine List.Sublist.cons _ ?_)) ?_)
      intro W10 H10
      repeat (first
      | refine so_pure tabOk lax_mid rfl rfl rfl rfl (by kernel_rfl) ?_
      | refine so_load' tabOk lax_mid rfl rfl rfl rfl (by repeat (first | exact List.Mem.head _ | apply List.Mem.tail)) (by rfl) (by rfl) (by kernel_rfl) ?_
      | refine so_loada' tabOk lax_mid rfl rfl rfl rfl (by repeat (first | exact List.Mem.head _ | apply List.Mem.tail)) (by rfl) (by kernel_rfl) ?_
      | refine so_len tabOk lax_mid rfl rfl rfl rfl (by kernel_rfl) ?_
      | refine so_build' tabOk lax_mid rfl rfl rfl rfl rfl rfl (by kernel_rfl) ?_
      | refine so_index1n tabOk lax_mid rfl rfl rfl rfl (by omega) (by kernel_rfl) ?_
      | refine so_indexn tabOk lax_mid rfl rfl rfl rfl (by omega) (by kernel_rfl) ?_
      | refine so_index1 tabOk lax_mid rfl rfl rfl rfl (by omega) (by omega) (by kernel_rfl) ?_
      | refine so_pass lax_mid rfl rfl rfl (by kernel_rfl) ?_
      | refine so_arith tabOk lax_mid rfl rfl rfl rfl (by simp only [InR]; omega) (by kernel_rfl) ?_)
      refine so_done ?_
      exact mid_done (pd, kd, pe, ke, pf, kf, b9) (by dsimp only; exact (by repeat (first | exact less_nil | refine less_cons rfl ?_))) (by dsimp only; exact Hp.picks (by assumption) (by repeat (first | exact Picks.nil | (apply Picks.cons; (repeat (first | exact Pick.here | apply Pick.there))))))
  rintro ⟨px, kx, py, ky, pz, kz, b17⟩ W22 H22
  dsimp only at H22 ⊢
  repeat' (first
      | refine s_pure tabOk rfl rfl rfl rfl ?_
      | refine aops_nil ?_
      | refine thn_normal ?_
      | refine aw_seq ?_
      | refine aw_regk 19 rfl ?_
      | refine s_pass rfl rfl rfl ?_
      | refine s_len tabOk rfl rfl rfl rfl ?_
      | refine aw_true rfl ?_
      | refine aw_false rfl ?_
      | refine aw_block ?_
      | refine aw_skip ?_
      | refine aw_exit ?_
      | refine blk_exit ?_
      | refine blk_exit_other rfl ?_
      | refine blk_normal ?_
      | refine thn_exit ?_
      | refine thn_ret ?_
      | refine blk_ret ?_
      | refine rnd_ret ?_
      | refine rnd_exit ?_
      | refine aw_ret ?_
      | refine s_arith tabOk rfl rfl rfl rfl (by simp only [InR]; omega) ?_
      | ((fail_if_success refine s_told rfl rfl ?_); refine s_part rfl rfl rfl ?_ ?_ <;> intro hc <;> (first | replace hc := of_decide_eq_true hc | replace hc := of_decide_eq_false hc | replace hc := eq_of_beq hc | simp only [Bool.not_eq_true', Bool.not_eq_false', Bool.and_eq_true, Bool.or_eq_true, Bool.or_eq_false_iff, Bool.not_true, Bool.not_false, decide_eq_true_eq, decide_eq_false_iff_not, Bool.and_eq_false_imp, bne_iff_ne, ne_eq, beq_iff_eq, beq_eq_false_iff_ne, bne_eq_false_iff_eq, bne_self_eq_false, not_true_eq_false, eq_self, Bool.true_eq_false, Bool.false_eq_true] at hc | skip))
      | (refine aw_if rfl ?_ ?_ <;> intro hc <;> (first | replace hc := of_decide_eq_true hc | replace hc := of_decide_eq_false hc | replace hc := eq_of_beq hc | simp only [Bool.not_eq_true', Bool.not_eq_false', Bool.and_eq_true, Bool.or_eq_true, Bool.or_eq_false_iff, Bool.not_true, Bool.not_false, decide_eq_true_eq, decide_eq_false_iff_not, Bool.and_eq_false_imp, bne_iff_ne, ne_eq, beq_iff_eq, beq_eq_false_iff_ne, bne_eq_false_iff_eq, bne_self_eq_false, not_true_eq_false, eq_self, Bool.true_eq_false, Bool.false_eq_true] at hc | skip))
      | refine s_index1n tabOk rfl rfl rfl rfl (by omega) ?_
      | refine s_indexn tabOk rfl rfl rfl rfl (by omega) ?_
      | refine s_index1 tabOk rfl rfl rfl rfl (by omega) (by omega) ?_
      | refine sh_load tabOk (by assumption) rfl rfl rfl rfl (by repeat (first | exact List.Mem.head _ | apply List.Mem.tail)) (by rfl) (by rfl) ?_
      | refine sh_loada tabOk (by assumption) rfl rfl rfl rfl (by repeat (first | exact List.Mem.head _ | apply List.Mem.tail)) (by rfl) ?_
      | (refine sh_box (by assumption) rfl rfl rfl rfl rfl rfl ?_; intro _ _ _)
      | (refine sh_alloc tabOk (by assumption) rfl rfl rfl rfl rfl rfl ?_; intro _ _ _)
      | (refine sh_store tabOk (by assumption) rfl rfl rfl rfl rfl rfl (by repeat (first | exact Upd.here | apply Upd.there)) (by rfl) ?_; intro _ _)
      | (refine sh_lit tabOk (by assumption) rfl rfl rfl rfl rfl rfl rfl rfl rfl rfl rfl ?_; intro _ _ _)
      | refine sh_build tabOk rfl rfl rfl rfl rfl rfl ?_
      | refine rndh_ret ?_
      | refine rndh_exit ?_)
  refine s_call rfl rfl rfl rfl ent15 (hx_eqRiver (by assumption) (Hp.rv (by assumption) (by repeat (first | exact List.Mem.head _ | apply List.Mem.tail)) (by repeat (first | exact List.Mem.head _ | apply List.Mem.tail)) (by repeat (first | exact List.Mem.head _ | apply List.Mem.tail))) (Hp.rv (by assumption) (by repeat (first | exact List.Mem.head _ | apply List.Mem.tail)) (by repeat (first | exact List.Mem.head _ | apply List.Mem.tail)) (by repeat (first | exact List.Mem.head _ | apply List.Mem.tail))) hz) ?_
  rintro _ W23 ⟨rfl, H23⟩
  repeat' (first
      | refine s_pure tabOk rfl rfl rfl rfl ?_
      | refine aops_nil ?_
      | refine thn_normal ?_
      | refine aw_seq ?_
      | refine aw_regk 19 rfl ?_
      | refine s_pass rfl rfl rfl ?_
      | refine s_len tabOk rfl rfl rfl rfl ?_
      | refine aw_true rfl ?_
      | refine aw_false rfl ?_
      | refine aw_block ?_
      | refine aw_skip ?_
      | refine aw_exit ?_
      | refine blk_exit ?_
      | refine blk_exit_other rfl ?_
      | refine blk_normal ?_
      | refine thn_exit ?_
      | refine thn_ret ?_
      | refine blk_ret ?_
      | refine rnd_ret ?_
      | refine rnd_exit ?_
      | refine aw_ret ?_
      | refine s_arith tabOk rfl rfl rfl rfl (by simp only [InR]; omega) ?_
      | ((fail_if_success refine s_told rfl rfl ?_); refine s_part rfl rfl rfl ?_ ?_ <;> intro hc <;> (first | replace hc := of_decide_eq_true hc | replace hc := of_decide_eq_false hc | replace hc := eq_of_beq hc | simp only [Bool.not_eq_true', Bool.not_eq_false', Bool.and_eq_true, Bool.or_eq_true, Bool.or_eq_false_iff, Bool.not_true, Bool.not_false, decide_eq_true_eq, decide_eq_false_iff_not, Bool.and_eq_false_imp, bne_iff_ne, ne_eq, beq_iff_eq, beq_eq_false_iff_ne, bne_eq_false_iff_eq, bne_self_eq_false, not_true_eq_false, eq_self, Bool.true_eq_false, Bool.false_eq_true] at hc | skip))
      | (refine aw_if rfl ?_ ?_ <;> intro hc <;> (first | replace hc := of_decide_eq_true hc | replace hc := of_decide_eq_false hc | replace hc := eq_of_beq hc | simp only [Bool.not_eq_true', Bool.not_eq_false', Bool.and_eq_true, Bool.or_eq_true, Bool.or_eq_false_iff, Bool.not_true, Bool.not_false, decide_eq_true_eq, decide_eq_false_iff_not, Bool.and_eq_false_imp, bne_iff_ne, ne_eq, beq_iff_eq, beq_eq_false_iff_ne, bne_eq_false_iff_eq, bne_self_eq_false, not_true_eq_false, eq_self, Bool.true_eq_false, Bool.false_eq_true] at hc | skip))
      | refine s_index1n tabOk rfl rfl rfl rfl (by omega) ?_
      | refine s_indexn tabOk rfl rfl rfl rfl (by omega) ?_
      | refine s_index1 tabOk rfl rfl rfl rfl (by omega) (by omega) ?_
      | refine sh_load tabOk (by assumption) rfl rfl rfl rfl (by repeat (first | exact List.Mem.head _ | apply List.Mem.tail)) (by rfl) (by rfl) ?_
      | refine sh_loada tabOk (by assumption) rfl rfl rfl rfl (by repeat (first | exact List.Mem.head _ | apply List.Mem.tail)) (by rfl) ?_
      | (refine sh_box (by assumption) rfl rfl rfl rfl rfl rfl ?_; intro _ _ _)
      | (refine sh_alloc tabOk (by assumption) rfl rfl rfl rfl rfl rfl ?_; intro _ _ _)
      | (refine sh_store tabOk (by assumption) rfl rfl rfl rfl rfl rfl (by repeat (first | exact Upd.here | apply Upd.there)) (by rfl) ?_; intro _ _)
      | (refine sh_lit tabOk (by assumption) rfl rfl rfl rfl rfl rfl rfl rfl rfl rfl rfl ?_; intro _ _ _)
      | refine sh_build tabOk rfl rfl rfl rfl rfl rfl ?_
      | refine rndh_ret ?_
      | refine rndh_exit ?_)
  refine s_call rfl rfl rfl rfl ent17 (hx_heldRiver (by assumption) (by repeat (first | exact List.Mem.head _ | apply List.Mem.tail)) (by repeat (first | exact List.Mem.head _ | apply List.Mem.tail)) (by repeat (first | exact List.Mem.head _ | apply List.Mem.tail)) hz (by omega) (by omega)) ?_
  rintro _ W24 ⟨rfl, H24⟩
  repeat' (first
      | refine s_pure tabOk rfl rfl rfl rfl ?_
      | refine aops_nil ?_
      | refine thn_normal ?_
      | refine aw_seq ?_
      | refine aw_regk 19 rfl ?_
      | refine s_pass rfl rfl rfl ?_
      | refine s_len tabOk rfl rfl rfl rfl ?_
      | refine aw_true rfl ?_
      | refine aw_false rfl ?_
      | refine aw_block ?_
      | refine aw_skip ?_
      | refine aw_exit ?_
      | refine blk_exit ?_
      | refine blk_exit_other rfl ?_
      | refine blk_normal ?_
      | refine thn_exit ?_
      | refine thn_ret ?_
      | refine blk_ret ?_
      | refine rnd_ret ?_
      | refine rnd_exit ?_
      | refine aw_ret ?_
      | refine s_arith tabOk rfl rfl rfl rfl (by simp only [InR]; omega) ?_
      | ((fail_if_success refine s_told rfl rfl ?_); refine s_part rfl rfl rfl ?_ ?_ <;> intro hc <;> (first | replace hc := of_decide_eq_true hc | replace hc := of_decide_eq_false hc | replace hc := eq_of_beq hc | simp only [Bool.not_eq_true', Bool.not_eq_false', Bool.and_eq_true, Bool.or_eq_true, Bool.or_eq_false_iff, Bool.not_true, Bool.not_false, decide_eq_true_eq, decide_eq_false_iff_not, Bool.and_eq_false_imp, bne_iff_ne, ne_eq, beq_iff_eq, beq_eq_false_iff_ne, bne_eq_false_iff_eq, bne_self_eq_false, not_true_eq_false, eq_self, Bool.true_eq_false, Bool.false_eq_true] at hc | skip))
      | (refine aw_if rfl ?_ ?_ <;> intro hc <;> (first | replace hc := of_decide_eq_true hc | replace hc := of_decide_eq_false hc | replace hc := eq_of_beq hc | simp only [Bool.not_eq_true', Bool.not_eq_false', Bool.and_eq_true, Bool.or_eq_true, Bool.or_eq_false_iff, Bool.not_true, Bool.not_false, decide_eq_true_eq, decide_eq_false_iff_not, Bool.and_eq_false_imp, bne_iff_ne, ne_eq, beq_iff_eq, beq_eq_false_iff_ne, bne_eq_false_iff_eq, bne_self_eq_false, not_true_eq_false, eq_self, Bool.true_eq_false, Bool.false_eq_true] at hc | skip))
      | refine s_index1n tabOk rfl rfl rfl rfl (by omega) ?_
      | refine s_indexn tabOk rfl rfl rfl rfl (by omega) ?_
      | refine s_index1 tabOk rfl rfl rfl rfl (by omega) (by omega) ?_
      | refine sh_load tabOk (by assumption) rfl rfl rfl rfl (by repeat (first | exact List.Mem.head _ | apply List.Mem.tail)) (by rfl) (by rfl) ?_
      | refine sh_loada tabOk (by assumption) rfl rfl rfl rfl (by repeat (first | exact List.Mem.head _ | apply List.Mem.tail)) (by rfl) ?_
      | (refine sh_box (by assumption) rfl rfl rfl rfl rfl rfl ?_; intro _ _ _)
      | (refine sh_alloc tabOk (by assumption) rfl rfl rfl rfl rfl rfl ?_; intro _ _ _)
      | (refine sh_store tabOk (by assumption) rfl rfl rfl rfl rfl rfl (by repeat (first | exact Upd.here | apply Upd.there)) (by rfl) ?_; intro _ _)
      | (refine sh_lit tabOk (by assumption) rfl rfl rfl rfl rfl rfl rfl rfl rfl rfl rfl ?_; intro _ _ _)
      | refine sh_build tabOk rfl rfl rfl rfl rfl rfl ?_
      | refine rndh_ret ?_
      | refine rndh_exit ?_)
  all_goals try (exfalso; omega)
  refine retK_ret tabOk (congrArg Array.toList Try.results3) (by repeat (first | exact rv_nil | apply rv_tmp rfl rfl | apply rv_cellH (by assumption) rfl rfl rfl (by repeat (first | exact List.Mem.head _ | apply List.Mem.tail)) rfl)) ?_
  exact ⟨rfl, Hp.below (by assumption)⟩
set_option maxRecDepth 100000 in
theorem law_FnExactJoinRivers {H : Type} {enc : TypeId × Value → H} {W : World} {base : Nat} {v0 v1 v2 : Value} {d0 d1 d2 : DataW H} {p0 p1 p2 : List MemPlace} (k0 : Value.okWide Try.prog W .any base 25 v0) (h0 : DataW.Trod enc Try.prog W 0 (fun _ => true) true 25 v0 d0 p0) (k1 : Value.okWide Try.prog W .any base 25 v1) (h1 : DataW.Trod enc Try.prog W 0 (fun _ => true) true 25 v1 d1 p1) (k2 : Value.okWide Try.prog W .any base 2 v2) (h2 : DataW.Trod enc Try.prog W 0 (fun _ => true) true 2 v2 d2 p2) :
    ACalls Try.prog W.heap.size 3 [cv v0, cv v1, cv v2] (cw W.heap.size W) (fun r W1 => r = .bool true ∧ Below W.heap.size (cw W.heap.size W) W1) := by
  obtain ⟨m0, e0⟩ := h0
  obtain ⟨r0, x0, f0⟩ := open_riv k0 e0
  obtain ⟨m1, e1⟩ := h1
  obtain ⟨r1, x1, f1⟩ := open_riv k1 e1
  obtain ⟨n2, rfl⟩ := okWide_int Try.underlying2 k2
  have := c_laws_FnExactJoinRivers x0 f0 x1 f1 n2
  rw [cw_size] at this
  exact this
set_option maxRecDepth 100000 in
theorem lifted_FnExactJoinRivers (os : Os) (started : os.Started) (H : Type) (enc : TypeId × Value → H) :
    ReturnsInHanded {} Try.checked os 3 .any (Rows.fnExactJoinRiversSpec.pre6 enc Try.prog Try.f3 Rows.fnExactJoinRiversRow.domain false) (Rows.fnExactJoinRiversSpec.post enc Try.prog Try.f3 false true false false) := by
  refine returnsInHanded_of_change_sized (C := Try.checked) own started (by kernel_rfl) Try.func3 (ChangeSpec.witness6 (enc := enc) (C := Try.checked) false ⟨#[], #[.agg #[.slice none 0 0, .slice none 0 0, .slice none 0 0], .agg #[.slice none 0 0, .slice none 0 0, .slice none 0 0], .int .i64 0], []⟩ 8 (by kernel_rfl) (by kernel_rfl) (by kernel_rfl) (by kernel_rfl)) ?_
  intro W base args ds gs before hval0 hW hcnd hsz0 _
  have hval : ∀ (j : Nat) t v, Try.f3.params[j]? = some t → args[j]? = some v → Value.okWide Try.prog W .any base t v := hval0
  have hW' := hW
  obtain ⟨p, q, hA0, hV, rfl, hfz, hnd⟩ := hW
  have hA : DataW.TrodAll enc Try.prog W 0 (fun _ => true) true Try.f3.params.toList args.toList ds p := hA0
  rw [Try.params3] at hA hval
  have hA1 := hA
  obtain ⟨v0, vs0, d0, ds0, p0, q0, hargs, rfl, rfl, h0, r0⟩ := trodAll_cons hA
  obtain ⟨v1, vs1, d1, ds1, p1, q1, rfl, rfl, rfl, h1, r1⟩ := trodAll_cons r0
  obtain ⟨v2, vs2, d2, ds2, p2, q2, rfl, rfl, rfl, h2, r2⟩ := trodAll_cons r1
  obtain ⟨rfl, rfl, rfl⟩ := trodAll_nil r2
  obtain rfl : args = #[v0, v1, v2] := by cases args; simp_all
  obtain ⟨rfl, rfl⟩ := trodVars_none hV
  refine (acalls_elim (law_FnExactJoinRivers (hval 0 _ v0 rfl rfl) h0 (hval 1 _ v1 rfl rfl) h1 (hval 2 _ v2 rfl rfl) h2) _ W rfl rfl (Nat.le_refl _)).mono fun e W1 hh => ?_
  obtain ⟨u, he, -, hu, hb⟩ := hh
  have hu' : u = .bool true := cv_bool_inv hu
  subst hu'; subst he
  have bel := below_back hb
  exact ⟨_, rfl, _, _, _, [], _, [], hW', trodAll_mk1 (shut_bool Try.underlying4 _), trodAll_stays laidOut bel _ _ _ _ (by kernel_rfl) hA1, rfl, bel.frame _, fun h => by cases h⟩
theorem over_FnExactJoinRivers : Rows.fnExactJoinRiversRow.holds Try.pinned (OpenSpec.ofChange Rows.fnExactJoinRiversSpec) :=
  OpenClaim.holds_of_wide 3 Try.f3 rfl rfl rfl rfl rfl rfl rfl ⟨rfl, rfl, rfl, rfl, rfl⟩ rfl rfl rfl rfl rfl (by kernel_rfl) Try.func3 (by kernel_rfl) (of_decide_eq_true (by kernel_rfl)) (by unfold Func.isWrapper; first | (rw [if_pos (by decide +kernel)]; kernel_rfl) | (rw [if_neg (by decide +kernel)]; exact ⟨rfl, rfl⟩)) (fun os started H enc _ => lifted_FnExactJoinRivers os started H enc)
theorem holds_FnExactJoinRivers : Rows.FnExactJoinRiversSaid := over_FnExactJoinRivers
end Go.Proofs.Ytgkmonllkfgbdaa
