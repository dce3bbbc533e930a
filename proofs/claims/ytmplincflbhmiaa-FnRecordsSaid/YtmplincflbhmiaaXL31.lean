/- FnRecords gives true whatever the input. No condition. -/
import Derived.Test.YtmplincflbhmiaaRows
import Derived.Test.YtmplincflbhmiaaXYd
namespace Go.Proofs.Ytmplincflbhmiaa
set_option linter.unusedSimpArgs false
set_option linter.unusedVariables false
open Go Cn Go.ChangeShapes Go.WideShapes Go.ChangeAt Go.RowKit
structure RcX where
  i : Nat
  p : Option Addr
  q : Nat
set_option maxHeartbeats 4000000 in
theorem c_laws_FnRecords {W : World} {v0 v1 : Value} {xs0 xs1 : List Int} (hv0 : SlV W 1 v0 xs0.length (u8s xs0)) (hl0 : xs0.length ≤ 9223372036854775807) (hr0 : ∀ z ∈ xs0, 0 ≤ z ∧ z < 256)
    (hv1 : SlV W 1 v1 xs1.length (u8s xs1)) (hl1 : xs1.length ≤ 9223372036854775807) (hr1 : ∀ z ∈ xs1, 0 ≤ z ∧ z < 256) :
    ACalls Try.prog W.heap.size 5 [v0, v1] W (fun u W' => u = .bool true ∧ Below W.heap.size W W') := by
  have hw0 := hv0
  have hw1 := hv1
  obtain ⟨a0, k0, rfl, -⟩ := hw0.form
  obtain ⟨a1, k1, rfl, -⟩ := hw1.form
  have H0 : Hp W.heap.size W W [] := Hp.new (Nat.le_refl _)
  refine acalls_of Try.func5 rfl Try.ntmps5 (Nat.le_of_ble_eq_true rfl) ?_
  repeat' (first | refine s_pure tabOk rfl rfl rfl rfl ?_ | refine Stp.imp ?_ | refine aops_nil ?_ | refine aw_regk 43 rfl ?_ | refine aw_seq ?_ | refine s_pass rfl rfl rfl ?_ | refine s_len tabOk rfl rfl rfl rfl ?_ | refine aw_true rfl ?_ | refine aw_false rfl ?_ | refine blk_exit_other rfl ?_ | refine s_arith tabOk rfl rfl rfl rfl (by simp only [InR]; omega) ?_ | ((first | ((fail_if_success refine s_told rfl rfl ?_); refine s_part rfl rfl rfl ?_ ?_) | refine aw_if rfl ?_ ?_) <;> intro hc <;> (first | replace hc := DecT.imp hc | simp only [decs] at hc | skip)) | refine s_index1n tabOk rfl rfl rfl rfl (by omega) ?_ | refine s_indexn tabOk rfl rfl rfl rfl (by omega) ?_ | refine s_index1 tabOk rfl rfl rfl rfl (by omega) (by omega) ?_ | refine sh_load tabOk (by assumption) rfl rfl rfl rfl (by repeat (first | exact List.Mem.head _ | apply List.Mem.tail)) (by rfl) (by rfl) ?_ | refine sh_loada tabOk (by assumption) rfl rfl rfl rfl (by repeat (first | exact List.Mem.head _ | apply List.Mem.tail)) (by rfl) ?_ | (refine sh_box (by assumption) rfl rfl rfl rfl rfl rfl ?_; intro _ _ _) | (refine sh_alloc tabOk (by assumption) rfl rfl rfl rfl rfl rfl ?_; intro _ _ _) | (refine sh_store tabOk (by assumption) rfl rfl rfl rfl rfl rfl (by repeat (first | exact Upd.here | apply Upd.there)) (by rfl) ?_; intro _ _) | (refine sh_lit tabOk (by assumption) rfl rfl rfl rfl rfl rfl rfl rfl rfl rfl rfl ?_; intro _ _ _) | refine sh_build tabOk rfl rfl rfl rfl rfl rfl ?_)
  refine s_call rfl rfl rfl rfl ent19 (c_b10Long hl0 hl1) ?_
  rintro _ W9 ⟨⟨x, rfl, hx⟩, e9⟩
  obtain rfl := e9.symm
  clear e9
  cases x
  rotate_left
  · repeat' (first | refine s_pure tabOk rfl rfl rfl rfl ?_ | refine Stp.imp ?_ | refine aops_nil ?_ | refine aw_regk 43 rfl ?_ | refine aw_seq ?_ | refine s_pass rfl rfl rfl ?_ | refine s_len tabOk rfl rfl rfl rfl ?_ | refine aw_true rfl ?_ | refine aw_false rfl ?_ | refine blk_exit_other rfl ?_ | refine s_arith tabOk rfl rfl rfl rfl (by simp only [InR]; omega) ?_ | ((first | ((fail_if_success refine s_told rfl rfl ?_); refine s_part rfl rfl rfl ?_ ?_) | refine aw_if rfl ?_ ?_) <;> intro hc <;> (first | replace hc := DecT.imp hc | simp only [decs] at hc | skip)) | refine s_index1n tabOk rfl rfl rfl rfl (by omega) ?_ | refine s_indexn tabOk rfl rfl rfl rfl (by omega) ?_ | refine s_index1 tabOk rfl rfl rfl rfl (by omega) (by omega) ?_ | refine sh_load tabOk (by assumption) rfl rfl rfl rfl (by repeat (first | exact List.Mem.head _ | apply List.Mem.tail)) (by rfl) (by rfl) ?_ | refine sh_loada tabOk (by assumption) rfl rfl rfl rfl (by repeat (first | exact List.Mem.head _ | apply List.Mem.tail)) (by rfl) ?_ | (refine sh_box (by assumption) rfl rfl rfl rfl rfl rfl ?_; intro _ _ _) | (refine sh_alloc tabOk (by assumption) rfl rfl rfl rfl rfl rfl ?_; intro _ _ _) | (refine sh_store tabOk (by assumption) rfl rfl rfl rfl rfl rfl (by repeat (first | exact Upd.here | apply Upd.there)) (by rfl) ?_; intro _ _) | (refine sh_lit tabOk (by assumption) rfl rfl rfl rfl rfl rfl rfl rfl rfl rfl rfl ?_; intro _ _ _) | refine sh_build tabOk rfl rfl rfl rfl rfl rfl ?_)
    refine retK_ret tabOk (congrArg Array.toList Try.results5) (by repeat (first | exact rv_nil | apply rv_tmp rfl rfl | apply rv_cellH (by assumption) rfl rfl rfl (by repeat (first | exact List.Mem.head _ | apply List.Mem.tail)) rfl)) ?_
    exact ⟨rfl, H0.below⟩
  obtain ⟨n0, n1⟩ := hx rfl
  clear hx
  have cb0 : CodeB W a0 xs0.length k0 xs0 := ⟨hv0, rfl, n0, hr0⟩
  have cb1 : CodeB W a1 xs1.length k1 xs1 := ⟨hv1, rfl, n1, hr1⟩
  repeat' (first | refine s_pure tabOk rfl rfl rfl rfl ?_ | refine Stp.imp ?_ | refine aops_nil ?_ | refine aw_regk 43 rfl ?_ | refine aw_seq ?_ | refine s_pass rfl rfl rfl ?_ | refine s_len tabOk rfl rfl rfl rfl ?_ | refine aw_true rfl ?_ | refine aw_false rfl ?_ | refine blk_exit_other rfl ?_ | refine s_arith tabOk rfl rfl rfl rfl (by simp only [InR]; omega) ?_ | ((first | ((fail_if_success refine s_told rfl rfl ?_); refine s_part rfl rfl rfl ?_ ?_) | refine aw_if rfl ?_ ?_) <;> intro hc <;> (first | replace hc := DecT.imp hc | simp only [decs] at hc | skip)) | refine s_index1n tabOk rfl rfl rfl rfl (by omega) ?_ | refine s_indexn tabOk rfl rfl rfl rfl (by omega) ?_ | refine s_index1 tabOk rfl rfl rfl rfl (by omega) (by omega) ?_ | refine sh_load tabOk (by assumption) rfl rfl rfl rfl (by repeat (first | exact List.Mem.head _ | apply List.Mem.tail)) (by rfl) (by rfl) ?_ | refine sh_loada tabOk (by assumption) rfl rfl rfl rfl (by repeat (first | exact List.Mem.head _ | apply List.Mem.tail)) (by rfl) ?_ | (refine sh_box (by assumption) rfl rfl rfl rfl rfl rfl ?_; intro _ _ _) | (refine sh_alloc tabOk (by assumption) rfl rfl rfl rfl rfl rfl ?_; intro _ _ _) | (refine sh_store tabOk (by assumption) rfl rfl rfl rfl rfl rfl (by repeat (first | exact Upd.here | apply Upd.there)) (by rfl) ?_; intro _ _) | (refine sh_lit tabOk (by assumption) rfl rfl rfl rfl rfl rfl rfl rfl rfl rfl rfl ?_; intro _ _ _) | refine sh_build tabOk rfl rfl rfl rfl rfl rfl ?_)
  refine s_call rfl rfl rfl rfl ent20 (c_B10Records cb0 (Nat.le_refl _)) ?_
  rintro _ W1 ⟨p, q, ys, rfl, hy4, hgy, q1⟩
  have H1 := Hp.call1 H0 q1
  clear q1 H0
  repeat' (first | refine s_pure tabOk rfl rfl rfl rfl ?_ | refine Stp.imp ?_ | refine aops_nil ?_ | refine aw_regk 43 rfl ?_ | refine aw_seq ?_ | refine s_pass rfl rfl rfl ?_ | refine s_len tabOk rfl rfl rfl rfl ?_ | refine aw_true rfl ?_ | refine aw_false rfl ?_ | refine blk_exit_other rfl ?_ | refine s_arith tabOk rfl rfl rfl rfl (by simp only [InR]; omega) ?_ | ((first | ((fail_if_success refine s_told rfl rfl ?_); refine s_part rfl rfl rfl ?_ ?_) | refine aw_if rfl ?_ ?_) <;> intro hc <;> (first | replace hc := DecT.imp hc | simp only [decs] at hc | skip)) | refine s_index1n tabOk rfl rfl rfl rfl (by omega) ?_ | refine s_indexn tabOk rfl rfl rfl rfl (by omega) ?_ | refine s_index1 tabOk rfl rfl rfl rfl (by omega) (by omega) ?_ | refine sh_load tabOk (by assumption) rfl rfl rfl rfl (by repeat (first | exact List.Mem.head _ | apply List.Mem.tail)) (by rfl) (by rfl) ?_ | refine sh_loada tabOk (by assumption) rfl rfl rfl rfl (by repeat (first | exact List.Mem.head _ | apply List.Mem.tail)) (by rfl) ?_ | (refine sh_box (by assumption) rfl rfl rfl rfl rfl rfl ?_; intro _ _ _) | (refine sh_alloc tabOk (by assumption) rfl rfl rfl rfl rfl rfl ?_; intro _ _ _) | (refine sh_store tabOk (by assumption) rfl rfl rfl rfl rfl rfl (by repeat (first | exact Upd.here | apply Upd.there)) (by rfl) ?_; intro _ _) | (refine sh_lit tabOk (by assumption) rfl rfl rfl rfl rfl rfl rfl rfl rfl rfl rfl ?_; intro _ _ _) | refine sh_build tabOk rfl rfl rfl rfl rfl rfl ?_)
  rename_i b2 W2 H2
  clear H1
  have hgood : ∀ r ∈ ys.map (·.2), GoodR r := fun r hr => by
    obtain ⟨y, hy, rfl⟩ := List.mem_map.1 hr
    exact (hgy y hy).1
  refine aw_loopH (A := W) (fun x : RcX => [(51, .int .i64 x.i), (50, .int .i64 ys.length), (6, .slice x.p (x.i + 1) x.q), (5, .slice p ys.length q), (1, .slice a1 xs1.length k1)])
    (fun x => [.row 3 1 (.slice x.p (x.i + 1) x.q) (x.i + 1) (iC (eL (ys.map (·.2)) x.i)), rcM (.slice p ys.length q) ys]) (fun x => x.i ≤ ys.length ∧ (catR ((ys.map (·.2)).take x.i)).size ≤ 1000 * x.i) (fun x => ys.length - x.i) ⟨0, some ⟨b2, 0, none⟩, 1⟩ (by dsimp only; rw [List.take_zero, catR_nil]; exact ⟨by omega, Nat.le_refl _⟩) (by dsimp only; rw [eL_zero]; exact H2) (by dsimp only; exact (by repeat (first | exact less_nil | refine less_cons rfl ?_))) ?_
  clear H2
  rintro ⟨i, pe, qe⟩ W3 ⟨hi, hcs⟩ H3
  dsimp only at hi hcs H3 ⊢
  by_cases hin : i < ys.length
  · obtain ⟨bp, rfl⟩ := Hp.gPtr H3 (List.Mem.tail _ (List.Mem.head _)) (by omega)
    obtain ⟨be, rfl⟩ := Hp.row_ptr H3 (List.Mem.head _) (by omega)
    have hr := Hp.gRd H3 (List.Mem.tail _ (List.Mem.head _)) (by omega)
    have hyi := hgy _ (gD_mem (d0 := rc0) hin)
    repeat' (first | refine s_pure tabOk rfl rfl rfl rfl ?_ | refine Stp.imp ?_ | refine aops_nil ?_ | refine aw_regk 52 rfl ?_ | refine aw_seq ?_ | refine s_pass rfl rfl rfl ?_ | refine s_len tabOk rfl rfl rfl rfl ?_ | refine aw_true rfl ?_ | refine aw_false rfl ?_ | refine blk_exit_other rfl ?_ | refine s_arith tabOk rfl rfl rfl rfl (by simp only [InR]; omega) ?_ | ((first | ((fail_if_success refine s_told rfl rfl ?_); refine s_part rfl rfl rfl ?_ ?_) | refine aw_if rfl ?_ ?_) <;> intro hc <;> (first | replace hc := DecT.imp hc | simp only [decs] at hc | skip)) | refine s_index1n tabOk rfl rfl rfl rfl (by omega) ?_ | refine s_indexn tabOk rfl rfl rfl rfl (by omega) ?_ | refine s_index1 tabOk rfl rfl rfl rfl (by omega) (by omega) ?_ | refine sh_load tabOk (by assumption) rfl rfl rfl rfl (by repeat (first | exact List.Mem.head _ | apply List.Mem.tail)) (by rfl) (by rfl) ?_ | refine sh_loada tabOk (by assumption) rfl rfl rfl rfl (by repeat (first | exact List.Mem.head _ | apply List.Mem.tail)) (by rfl) ?_ | (refine sh_box (by assumption) rfl rfl rfl rfl rfl rfl ?_; intro _ _ _) | (refine sh_alloc tabOk (by assumption) rfl rfl rfl rfl rfl rfl ?_; intro _ _ _) | (refine sh_store tabOk (by assumption) rfl rfl rfl rfl rfl rfl (by repeat (first | exact Upd.here | apply Upd.there)) (by rfl) ?_; intro _ _) | (refine sh_lit tabOk (by assumption) rfl rfl rfl rfl rfl rfl rfl rfl rfl rfl rfl ?_; intro _ _ _) | refine sh_build tabOk rfl rfl rfl rfl rfl rfl ?_)
    all_goals try (exfalso; omega)
    refine sh_readA tabOk rcF_len rc0 rfl rfl rfl rfl hr rfl (by omega) ?_
    try simp only [Int.toNat_natCast]
    have sub : ∀ {W5 : World} {L : List Res} {m : Nat}, Hp W.heap.size W W5 L → rcM (.slice (some ⟨bp, 0, none⟩) ys.length q) ys ∈ L → 1 ≤ m → SlC W5 (.slice (some ⟨bp, 0 + i * 4, none⟩) 1 m) [ys.getD i rc0] := fun H hm h1 => slc_sub (Hp.slc H hm) hin h1
    have slf : ∀ {W5 : World} {L : List Res}, Hp W.heap.size W W5 L → rcM (.slice (some ⟨bp, 0, none⟩) ys.length q) ys ∈ L → rcS W5 (ys.getD i rc0) := fun H hm => (Hp.slc H hm).2 i hin
    have rown : ∀ {W5 : World} {L : List Res}, Hp W.heap.size W W5 L → rcM (.slice (some ⟨bp, 0, none⟩) ys.length q) ys ∈ L → ∃ M, Hp W.heap.size W W5 M ∧ fRow (.slice (ys.getD i rc0).1.1 (ys.getD i rc0).2.xs.length (ys.getD i rc0).1.2) (ys.getD i rc0).2.xs ∈ M := fun H hm => Hp.inRec H hm hin
    have hst := eL_step (rs := ys.map (·.2)) (i := i) (by simpa using hin)
    rw [rs_getC hin] at hst
    generalize ys.getD i rc0 = y at *
    obtain ⟨⟨pa, pc⟩, ⟨s, st, sp, xs⟩⟩ := y
    obtain ⟨⟨hk, hcan, hbd⟩, hx7, hst8, hsp8⟩ := hyi
    dsimp only at hk hcan hbd hx7 hst8 hsp8 slf rown hst ⊢
    have hk2 : recOk s st sp xs.length = true := by unfold okR at hk; exact hk
    obtain ⟨lo1, lo2⟩ := lod_of hk2 hcan hbd
    obtain ⟨r1, r2, r3, r4, r5, r6⟩ := recOk_range hk2
    obtain ⟨u1, u2⟩ := pack_back r6 r5 hcan hbd
    have hs8 := recOk_name hk2
    have hz := storeS_size s st sp xs
    have hpl := packTo_len xs xs.length
    have store : ∀ {W5 : World} {L : List Res}, Hp W.heap.size W W5 L → rcM (.slice (some ⟨bp, 0, none⟩) ys.length q) ys ∈ L → ACalls Try.prog W.heap.size 21 [.agg #[.string s, .int .i64 st, .int .i64 sp, .slice pa xs.length pc]] W5 (fun r W' => r = .tuple #[.string (storeS s st sp xs), .bool true] ∧ Below W5.heap.size W5 W') := fun H hm => by
      have := hc_impl_StoreRecord (B := W.heap.size) (recA_of (slf H hm)) (by dsimp only; omega) hbd (Hp.size H)
      dsimp only at this
      rw [hk2, stS_yes hk2] at this
      exact this
    have load : ∀ {W5 : World} {L : List Res}, Hp W.heap.size W W5 L → ACalls Try.prog W.heap.size 22 [.string (storeS s st sp xs)] W5 (fun r W' => ∃ a c, r = .tuple #[.agg #[.string s, .int .i64 st, .int .i64 sp, .slice a xs.length c], .bool true] ∧ Hp W.heap.size W5 W' [fRow (.slice a xs.length c) xs]) := fun H => by
      have := hc_impl_LoadRecord (B := W.heap.size) (s := storeS s st sp xs) (by omega) (Hp.size H)
      unfold LdH at this
      rw [lo1, lo2] at this
      exact this
    have pk : packOk xs.length = true := by unfold packOk; rw [decide_eq_true r5, decide_eq_true r6]; rfl
    have pack : ∀ {W5 : World} {L : List Res}, Hp W.heap.size W W5 L → rcM (.slice (some ⟨bp, 0, none⟩) ys.length q) ys ∈ L → ACalls Try.prog W.heap.size 23 [.slice pa xs.length pc] W5 (fun r W' => r = .tuple #[.string (strOfNums (packTo xs xs.length)), .bool true] ∧ Below W5.heap.size W5 W') := fun H hm => by
      have := c_impl_PackRecord (B := W.heap.size) (slf H hm) (by dsimp only; omega) hbd (Hp.size H)
      unfold packS at this
      dsimp only at this
      rw [pk] at this
      exact this
    have unp : ∀ {W5 : World} {L : List Res}, Hp W.heap.size W W5 L → ACalls Try.prog W.heap.size 24 [.string (strOfNums (packTo xs xs.length))] W5 (fun r W' => ∃ a c, r = .tuple #[.slice a xs.length c, .bool true] ∧ Hp W.heap.size W5 W' [fRow (.slice a xs.length c) xs]) := fun H => by
      have := hc_impl_UnpackRecord (B := W.heap.size) (s := strOfNums (packTo xs xs.length)) (by rw [strOfNums_size]; omega) (Hp.size H)
      unfold UnH at this
      rw [(uOk_same _).1, (uOk_same _).2, u1, u2] at this
      exact this
    have hsb : (storeS s st sp xs).size ≤ 1000 := by omega
    have hst2 : (eL (ys.map (·.2)) i).getD i 0 + ((storeS s st sp xs).size : Int) = ((catR ((ys.map (·.2)).take (i + 1))).size : Int) := hst
    clear hst
    have hsm := hst2
    have hsn : (catR ((ys.map (·.2)).take (i + 1))).size ≤ 1000 * (i + 1) := by rw [eL_get (Nat.le_refl _)] at hsm; omega
    have hE : 0 ≤ (eL (ys.map (·.2)) i).getD i 0 ∧ (eL (ys.map (·.2)) i).getD i 0 ≤ 1000000000 := by rw [eL_get (Nat.le_refl _)]; omega
    have hEl := eL_len (ys.map (·.2)) i
    have ep := eL_push (ys.map (·.2)) i
    rw [← hst2] at ep
    clear hsm hst2
    generalize eL (ys.map (·.2)) i = E0 at *
    generalize strOfNums (packTo xs xs.length) = pS at *
    generalize storeS s st sp xs = sS at *
    clear u1 u2 lo1 lo2 hpl hz
    have hcq : ys.length ≤ q := by
      obtain ⟨a, c, e, h⟩ := (Hp.slc H3 (List.Mem.tail _ (List.Mem.head _))).form
      cases e; exact h
    repeat' (first | refine s_pure tabOk rfl rfl rfl rfl ?_ | refine Stp.imp ?_ | refine aops_nil ?_ | refine aw_regk 52 rfl ?_ | refine aw_seq ?_ | refine s_pass rfl rfl rfl ?_ | refine s_len tabOk rfl rfl rfl rfl ?_ | refine aw_true rfl ?_ | refine aw_false rfl ?_ | refine blk_exit_other rfl ?_ | refine s_arith tabOk rfl rfl rfl rfl (by simp only [InR]; omega) ?_ | ((first | ((fail_if_success refine s_told rfl rfl ?_); refine s_part rfl rfl rfl ?_ ?_) | refine aw_if rfl ?_ ?_) <;> intro hc <;> (first | replace hc := DecT.imp hc | simp only [decs] at hc | skip)) | refine s_index1n tabOk rfl rfl rfl rfl (by omega) ?_ | refine s_indexn tabOk rfl rfl rfl rfl (by omega) ?_ | refine s_index1 tabOk rfl rfl rfl rfl (by omega) (by omega) ?_ | refine sh_load tabOk (by assumption) rfl rfl rfl rfl (by repeat (first | exact List.Mem.head _ | apply List.Mem.tail)) (by rfl) (by rfl) ?_ | refine sh_loada tabOk (by assumption) rfl rfl rfl rfl (by repeat (first | exact List.Mem.head _ | apply List.Mem.tail)) (by rfl) ?_ | (refine sh_box (by assumption) rfl rfl rfl rfl rfl rfl ?_; intro _ _ _) | (refine sh_alloc tabOk (by assumption) rfl rfl rfl rfl rfl rfl ?_; intro _ _ _) | (refine sh_store tabOk (by assumption) rfl rfl rfl rfl rfl rfl (by repeat (first | exact Upd.here | apply Upd.there)) (by rfl) ?_; intro _ _) | (refine sh_lit tabOk (by assumption) rfl rfl rfl rfl rfl rfl rfl rfl rfl rfl rfl ?_; intro _ _ _) | refine sh_build tabOk rfl rfl rfl rfl rfl rfl ?_)
    rename_i b8 W4 H4a W5 H5a
    have H5 : Hp W.heap.size W W5 [.blk b8 [.string s, .int .i64 st, .int .i64 sp, .slice pa xs.length pc] 44, .row 3 1 (.slice (some ⟨be, 0, none⟩) (i + 1) qe) (i + 1) (iC E0), rcM (.slice (some ⟨bp, 0, none⟩) ys.length q) ys] := H5a
    clear H4a H5a H3
    refine s_call rfl rfl rfl rfl ent21 (store H5 (by repeat (first | exact List.Mem.head _ | apply List.Mem.tail))) ?_
    rintro _ W6 ⟨rfl, g6⟩
    have H6 := Hp.grow H5 g6
    clear g6 H5
    repeat' (first | refine s_pure tabOk rfl rfl rfl rfl ?_ | refine Stp.imp ?_ | refine aops_nil ?_ | refine aw_regk 52 rfl ?_ | refine aw_seq ?_ | refine s_pass rfl rfl rfl ?_ | refine s_len tabOk rfl rfl rfl rfl ?_ | refine aw_true rfl ?_ | refine aw_false rfl ?_ | refine blk_exit_other rfl ?_ | refine s_arith tabOk rfl rfl rfl rfl (by simp only [InR]; omega) ?_ | ((first | ((fail_if_success refine s_told rfl rfl ?_); refine s_part rfl rfl rfl ?_ ?_) | refine aw_if rfl ?_ ?_) <;> intro hc <;> (first | replace hc := DecT.imp hc | simp only [decs] at hc | skip)) | refine s_index1n tabOk rfl rfl rfl rfl (by omega) ?_ | refine s_indexn tabOk rfl rfl rfl rfl (by omega) ?_ | refine s_index1 tabOk rfl rfl rfl rfl (by omega) (by omega) ?_ | refine sh_load tabOk (by assumption) rfl rfl rfl rfl (by repeat (first | exact List.Mem.head _ | apply List.Mem.tail)) (by rfl) (by rfl) ?_ | refine sh_loada tabOk (by assumption) rfl rfl rfl rfl (by repeat (first | exact List.Mem.head _ | apply List.Mem.tail)) (by rfl) ?_ | (refine sh_box (by assumption) rfl rfl rfl rfl rfl rfl ?_; intro _ _ _) | (refine sh_alloc tabOk (by assumption) rfl rfl rfl rfl rfl rfl ?_; intro _ _ _) | (refine sh_store tabOk (by assumption) rfl rfl rfl rfl rfl rfl (by repeat (first | exact Upd.here | apply Upd.there)) (by rfl) ?_; intro _ _) | (refine sh_lit tabOk (by assumption) rfl rfl rfl rfl rfl rfl rfl rfl rfl rfl rfl ?_; intro _ _ _) | refine sh_build tabOk rfl rfl rfl rfl rfl rfl ?_)
    refine s_call rfl rfl rfl rfl ent22 (load H6) ?_
    rintro _ W7 ⟨a7, c7, rfl, g7⟩
    have H7 := Hp.call1 H6 g7
    clear g7 H6
    repeat' (first | refine s_pure tabOk rfl rfl rfl rfl ?_ | refine Stp.imp ?_ | refine aops_nil ?_ | refine aw_regk 52 rfl ?_ | refine aw_seq ?_ | refine s_pass rfl rfl rfl ?_ | refine s_len tabOk rfl rfl rfl rfl ?_ | refine aw_true rfl ?_ | refine aw_false rfl ?_ | refine blk_exit_other rfl ?_ | refine s_arith tabOk rfl rfl rfl rfl (by simp only [InR]; omega) ?_ | ((first | ((fail_if_success refine s_told rfl rfl ?_); refine s_part rfl rfl rfl ?_ ?_) | refine aw_if rfl ?_ ?_) <;> intro hc <;> (first | replace hc := DecT.imp hc | simp only [decs] at hc | skip)) | refine s_index1n tabOk rfl rfl rfl rfl (by omega) ?_ | refine s_indexn tabOk rfl rfl rfl rfl (by omega) ?_ | refine s_index1 tabOk rfl rfl rfl rfl (by omega) (by omega) ?_ | refine sh_load tabOk (by assumption) rfl rfl rfl rfl (by repeat (first | exact List.Mem.head _ | apply List.Mem.tail)) (by rfl) (by rfl) ?_ | refine sh_loada tabOk (by assumption) rfl rfl rfl rfl (by repeat (first | exact List.Mem.head _ | apply List.Mem.tail)) (by rfl) ?_ | (refine sh_box (by assumption) rfl rfl rfl rfl rfl rfl ?_; intro _ _ _) | (refine sh_alloc tabOk (by assumption) rfl rfl rfl rfl rfl rfl ?_; intro _ _ _) | (refine sh_store tabOk (by assumption) rfl rfl rfl rfl rfl rfl (by repeat (first | exact Upd.here | apply Upd.there)) (by rfl) ?_; intro _ _) | (refine sh_lit tabOk (by assumption) rfl rfl rfl rfl rfl rfl rfl rfl rfl rfl rfl ?_; intro _ _ _) | refine sh_build tabOk rfl rfl rfl rfl rfl rfl ?_)
    rename_i b12 W8 H8a W9 H9
    clear H8a H7
    refine s_call rfl rfl rfl rfl ent23 (pack H9 (by repeat (first | exact List.Mem.head _ | apply List.Mem.tail))) ?_
    rintro _ W10 ⟨rfl, g10⟩
    have H10 := Hp.grow H9 g10
    clear g10 H9
    repeat' (first | refine s_pure tabOk rfl rfl rfl rfl ?_ | refine Stp.imp ?_ | refine aops_nil ?_ | refine aw_regk 52 rfl ?_ | refine aw_seq ?_ | refine s_pass rfl rfl rfl ?_ | refine s_len tabOk rfl rfl rfl rfl ?_ | refine aw_true rfl ?_ | refine aw_false rfl ?_ | refine blk_exit_other rfl ?_ | refine s_arith tabOk rfl rfl rfl rfl (by simp only [InR]; omega) ?_ | ((first | ((fail_if_success refine s_told rfl rfl ?_); refine s_part rfl rfl rfl ?_ ?_) | refine aw_if rfl ?_ ?_) <;> intro hc <;> (first | replace hc := DecT.imp hc | simp only [decs] at hc | skip)) | refine s_index1n tabOk rfl rfl rfl rfl (by omega) ?_ | refine s_indexn tabOk rfl rfl rfl rfl (by omega) ?_ | refine s_index1 tabOk rfl rfl rfl rfl (by omega) (by omega) ?_ | refine sh_load tabOk (by assumption) rfl rfl rfl rfl (by repeat (first | exact List.Mem.head _ | apply List.Mem.tail)) (by rfl) (by rfl) ?_ | refine sh_loada tabOk (by assumption) rfl rfl rfl rfl (by repeat (first | exact List.Mem.head _ | apply List.Mem.tail)) (by rfl) ?_ | (refine sh_box (by assumption) rfl rfl rfl rfl rfl rfl ?_; intro _ _ _) | (refine sh_alloc tabOk (by assumption) rfl rfl rfl rfl rfl rfl ?_; intro _ _ _) | (refine sh_store tabOk (by assumption) rfl rfl rfl rfl rfl rfl (by repeat (first | exact Upd.here | apply Upd.there)) (by rfl) ?_; intro _ _) | (refine sh_lit tabOk (by assumption) rfl rfl rfl rfl rfl rfl rfl rfl rfl rfl rfl ?_; intro _ _ _) | refine sh_build tabOk rfl rfl rfl rfl rfl rfl ?_)
    refine s_call rfl rfl rfl rfl ent24 (unp H10) ?_
    rintro _ W11 ⟨a11, c11, rfl, g11⟩
    have H11 := Hp.call1 H10 g11
    clear g11 H10
    repeat' (first | refine s_pure tabOk rfl rfl rfl rfl ?_ | refine Stp.imp ?_ | refine aops_nil ?_ | refine aw_regk 52 rfl ?_ | refine aw_seq ?_ | refine s_pass rfl rfl rfl ?_ | refine s_len tabOk rfl rfl rfl rfl ?_ | refine aw_true rfl ?_ | refine aw_false rfl ?_ | refine blk_exit_other rfl ?_ | refine s_arith tabOk rfl rfl rfl rfl (by simp only [InR]; omega) ?_ | ((first | ((fail_if_success refine s_told rfl rfl ?_); refine s_part rfl rfl rfl ?_ ?_) | refine aw_if rfl ?_ ?_) <;> intro hc <;> (first | replace hc := DecT.imp hc | simp only [decs] at hc | skip)) | refine s_index1n tabOk rfl rfl rfl rfl (by omega) ?_ | refine s_indexn tabOk rfl rfl rfl rfl (by omega) ?_ | refine s_index1 tabOk rfl rfl rfl rfl (by omega) (by omega) ?_ | refine sh_load tabOk (by assumption) rfl rfl rfl rfl (by repeat (first | exact List.Mem.head _ | apply List.Mem.tail)) (by rfl) (by rfl) ?_ | refine sh_loada tabOk (by assumption) rfl rfl rfl rfl (by repeat (first | exact List.Mem.head _ | apply List.Mem.tail)) (by rfl) ?_ | (refine sh_box (by assumption) rfl rfl rfl rfl rfl rfl ?_; intro _ _ _) | (refine sh_alloc tabOk (by assumption) rfl rfl rfl rfl rfl rfl ?_; intro _ _ _) | (refine sh_store tabOk (by assumption) rfl rfl rfl rfl rfl rfl (by repeat (first | exact Upd.here | apply Upd.there)) (by rfl) ?_; intro _ _) | (refine sh_lit tabOk (by assumption) rfl rfl rfl rfl rfl rfl rfl rfl rfl rfl rfl ?_; intro _ _ _) | refine sh_build tabOk rfl rfl rfl rfl rfl rfl ?_)
    refine aw_told followsMixed (DH W.heap.size W [fRow (.slice a11 xs.length c11) xs, .blk b12 [.string s, .int .i64 st, .int .i64 sp, .slice a7 xs.length c7] 44, fRow (.slice a7 xs.length c7) xs, .blk b8 [.string s, .int .i64 st, .int .i64 sp, .slice pa xs.length pc] 44, .row 3 1 (.slice (some ⟨be, 0, none⟩) (i + 1) qe) (i + 1) (iC E0), rcM (.slice (some ⟨bp, 0, none⟩) ys.length q) ys]) [0, 1, 2, 3, 4, 5, 6, 7, 8, 9, 10, 11, 12, 13, 14, 15, 16, 17, 18, 19, 20, 22, 23, 24, 25, 26, 21, 27, 28, 29, 30, 31, 32, 33, 34, 35, 36] (by kernel_rfl) (H11.sub (by repeat (first | exact List.nil_sublist _ | refine List.Sublist.cons_cons _ ?_ | refine List.Sublist.cons _ ?_))) ?_
    repeat (first | refine so_pure tabOk lx rfl rfl rfl rfl (by kernel_rfl) ?_ | refine so_load' tabOk lx rfl rfl rfl rfl (by repeat (first | exact List.Mem.head _ | apply List.Mem.tail)) (by rfl) (by rfl) (by kernel_rfl) ?_ | refine so_loada' tabOk lx rfl rfl rfl rfl (by repeat (first | exact List.Mem.head _ | apply List.Mem.tail)) (by rfl) (by kernel_rfl) ?_ | refine so_len tabOk lx rfl rfl rfl rfl (by kernel_rfl) ?_ | refine so_build' tabOk lx rfl rfl rfl rfl rfl rfl (by kernel_rfl) ?_ | refine so_index1n tabOk lx rfl rfl rfl rfl (by omega) (by kernel_rfl) ?_ | refine so_indexn tabOk lx rfl rfl rfl rfl (by omega) (by kernel_rfl) ?_ | refine so_index1 tabOk lx rfl rfl rfl rfl (by omega) (by omega) (by kernel_rfl) ?_ | refine so_pass lx rfl rfl rfl (by kernel_rfl) ?_ | refine so_arith tabOk lx rfl rfl rfl rfl (by simp only [InR]; omega) (by kernel_rfl) ?_)
    refine so_single (by kernel_rfl) (th_call [17, 18, 19, 20, 22, 23, 24, 25, 26, 21, 27, 28, 29, 30, 31, 32, 33, 34, 35, 36] (by kernel_rfl) rfl rfl rfl rfl ent25 (c_impl_ValidRecord (recA_of (slf H11 (by repeat (first | exact List.Mem.head _ | apply List.Mem.tail)))) (by dsimp only; omega)) ?_)
    rintro _ W12 ⟨rfl, g12⟩
    have H12 := Hp.grow H11 g12
    clear g12 H11
    refine ⟨H12.sub (by repeat (first | exact List.nil_sublist _ | refine List.Sublist.cons_cons _ ?_ | refine List.Sublist.cons _ ?_)), ?_⟩
    dsimp only
    rw [hk2]
    repeat (first | refine so_pure tabOk lx rfl rfl rfl rfl (by kernel_rfl) ?_ | refine so_load' tabOk lx rfl rfl rfl rfl (by repeat (first | exact List.Mem.head _ | apply List.Mem.tail)) (by rfl) (by rfl) (by kernel_rfl) ?_ | refine so_loada' tabOk lx rfl rfl rfl rfl (by repeat (first | exact List.Mem.head _ | apply List.Mem.tail)) (by rfl) (by kernel_rfl) ?_ | refine so_len tabOk lx rfl rfl rfl rfl (by kernel_rfl) ?_ | refine so_build' tabOk lx rfl rfl rfl rfl rfl rfl (by kernel_rfl) ?_ | refine so_index1n tabOk lx rfl rfl rfl rfl (by omega) (by kernel_rfl) ?_ | refine so_indexn tabOk lx rfl rfl rfl rfl (by omega) (by kernel_rfl) ?_ | refine so_index1 tabOk lx rfl rfl rfl rfl (by omega) (by omega) (by kernel_rfl) ?_ | refine so_pass lx rfl rfl rfl (by kernel_rfl) ?_ | refine so_arith tabOk lx rfl rfl rfl rfl (by simp only [InR]; omega) (by kernel_rfl) ?_)
    refine so_cut tabOk lx rfl rfl rfl rfl (by omega) (by omega) (by omega) hcq (by kernel_rfl) ?_
    repeat (first | refine so_pure tabOk lx rfl rfl rfl rfl (by kernel_rfl) ?_ | refine so_load' tabOk lx rfl rfl rfl rfl (by repeat (first | exact List.Mem.head _ | apply List.Mem.tail)) (by rfl) (by rfl) (by kernel_rfl) ?_ | refine so_loada' tabOk lx rfl rfl rfl rfl (by repeat (first | exact List.Mem.head _ | apply List.Mem.tail)) (by rfl) (by kernel_rfl) ?_ | refine so_len tabOk lx rfl rfl rfl rfl (by kernel_rfl) ?_ | refine so_build' tabOk lx rfl rfl rfl rfl rfl rfl (by kernel_rfl) ?_ | refine so_index1n tabOk lx rfl rfl rfl rfl (by omega) (by kernel_rfl) ?_ | refine so_indexn tabOk lx rfl rfl rfl rfl (by omega) (by kernel_rfl) ?_ | refine so_index1 tabOk lx rfl rfl rfl rfl (by omega) (by omega) (by kernel_rfl) ?_ | refine so_pass lx rfl rfl rfl (by kernel_rfl) ?_ | refine so_arith tabOk lx rfl rfl rfl rfl (by simp only [InR]; omega) (by kernel_rfl) ?_)
    refine so_single (by kernel_rfl) (th_lit tabOk H12 [27, 28, 29, 30, 31, 32, 33, 34, 35, 36] (by kernel_rfl) rfl rfl rfl rfl rfl rfl rfl rfl rfl rfl rfl (fun _ => (by repeat (first | exact List.nil_sublist _ | refine List.Sublist.cons_cons _ ?_ | refine List.Sublist.cons _ ?_))) ?_)
    intro b13 W13 H13
    have sc : sliced (some ⟨bp, 0, none⟩) (i : Int).toNat ((i : Int) + 1).toNat q 4 = .slice (some ⟨bp, 0 + i * 4, none⟩) 1 (q - i) := by
      rw [show ((i : Int) + 1).toNat = i + 1 by omega, Int.toNat_natCast]
      exact sliced_one (by omega)
    rw [sc]
    have one : rcN ⟨s, st, sp, xs⟩ ≤ 300 := by show s.size + xs.length ≤ 300; omega
    have tot1 : ∀ (z : Option Addr × Nat), [(z, (⟨s, st, sp, xs⟩ : Rcd))].length + totC [(z, ⟨s, st, sp, xs⟩)] ≤ 1048576 := fun z => by
      unfold totC
      simp only [List.map_cons, List.map_nil, List.sum_cons, List.sum_nil, List.length_cons, List.length_nil]
      omega
    have bd1 : ∀ (z : Option Addr × Nat), BdC [(z, (⟨s, st, sp, xs⟩ : Rcd))] := fun z j hj => by
      have : j = 0 := by simp at hj; omega
      subst this
      exact hbd
    refine so_single (by kernel_rfl) (th_call [28, 29, 30, 31, 32, 33, 34, 35, 36] (by kernel_rfl) rfl rfl rfl rfl ent26 (hc_impl_SameRecords (Hp.oneRec (y := ((a7, c7), ⟨s, st, sp, xs⟩)) H13 (by repeat (first | exact List.Mem.head _ | apply List.Mem.tail)) (by repeat (first | exact List.Mem.head _ | apply List.Mem.tail))) (sub H13 (by repeat (first | exact List.Mem.head _ | apply List.Mem.tail)) (by omega)) (tot1 _) (tot1 _) (bd1 _) (bd1 _) (Hp.size H13)) ?_)
    rintro _ W14 ⟨rfl, g14⟩
    have H14 := Hp.call0 H13 g14
    clear g14 H13
    refine ⟨H14.sub (by repeat (first | exact List.nil_sublist _ | refine List.Sublist.cons_cons _ ?_ | refine List.Sublist.cons _ ?_)), ?_⟩
    rw [show smRs ([((a7, c7), (⟨s, st, sp, xs⟩ : Rcd))].map (·.2)) ([((pa, pc), (⟨s, st, sp, xs⟩ : Rcd))].map (·.2)) = true from smRs_self _]
    repeat (first | refine so_pure tabOk lx rfl rfl rfl rfl (by kernel_rfl) ?_ | refine so_load' tabOk lx rfl rfl rfl rfl (by repeat (first | exact List.Mem.head _ | apply List.Mem.tail)) (by rfl) (by rfl) (by kernel_rfl) ?_ | refine so_loada' tabOk lx rfl rfl rfl rfl (by repeat (first | exact List.Mem.head _ | apply List.Mem.tail)) (by rfl) (by kernel_rfl) ?_ | refine so_len tabOk lx rfl rfl rfl rfl (by kernel_rfl) ?_ | refine so_build' tabOk lx rfl rfl rfl rfl rfl rfl (by kernel_rfl) ?_ | refine so_index1n tabOk lx rfl rfl rfl rfl (by omega) (by kernel_rfl) ?_ | refine so_indexn tabOk lx rfl rfl rfl rfl (by omega) (by kernel_rfl) ?_ | refine so_index1 tabOk lx rfl rfl rfl rfl (by omega) (by omega) (by kernel_rfl) ?_ | refine so_pass lx rfl rfl rfl (by kernel_rfl) ?_ | refine so_arith tabOk lx rfl rfl rfl rfl (by simp only [InR]; omega) (by kernel_rfl) ?_)
    refine so_qcall lx rfl rfl rfl rfl (by kernel_rfl) ent27 (fun _ hD => c_b10List (xs := xs) (Hp.slF (show Hp W.heap.size W _ _ from hD) (by repeat (first | exact List.Mem.head _ | apply List.Mem.tail))) (slf (show Hp W.heap.size W _ _ from hD) (by repeat (first | exact List.Mem.head _ | apply List.Mem.tail))) (by omega) hbd) ?_
    repeat (first | refine so_pure tabOk lx rfl rfl rfl rfl (by kernel_rfl) ?_ | refine so_load' tabOk lx rfl rfl rfl rfl (by repeat (first | exact List.Mem.head _ | apply List.Mem.tail)) (by rfl) (by rfl) (by kernel_rfl) ?_ | refine so_loada' tabOk lx rfl rfl rfl rfl (by repeat (first | exact List.Mem.head _ | apply List.Mem.tail)) (by rfl) (by kernel_rfl) ?_ | refine so_len tabOk lx rfl rfl rfl rfl (by kernel_rfl) ?_ | refine so_build' tabOk lx rfl rfl rfl rfl rfl rfl (by kernel_rfl) ?_ | refine so_index1n tabOk lx rfl rfl rfl rfl (by omega) (by kernel_rfl) ?_ | refine so_indexn tabOk lx rfl rfl rfl rfl (by omega) (by kernel_rfl) ?_ | refine so_index1 tabOk lx rfl rfl rfl rfl (by omega) (by omega) (by kernel_rfl) ?_ | refine so_pass lx rfl rfl rfl (by kernel_rfl) ?_ | refine so_arith tabOk lx rfl rfl rfl rfl (by simp only [InR]; omega) (by kernel_rfl) ?_)
    refine so_done ?_
    repeat' (first | refine s_pure tabOk rfl rfl rfl rfl ?_ | refine Stp.imp ?_ | refine aops_nil ?_ | refine aw_regk 52 rfl ?_ | refine aw_seq ?_ | refine s_pass rfl rfl rfl ?_ | refine s_len tabOk rfl rfl rfl rfl ?_ | refine aw_true rfl ?_ | refine aw_false rfl ?_ | refine blk_exit_other rfl ?_ | refine s_arith tabOk rfl rfl rfl rfl (by simp only [InR]; omega) ?_ | ((first | ((fail_if_success refine s_told rfl rfl ?_); refine s_part rfl rfl rfl ?_ ?_) | refine aw_if rfl ?_ ?_) <;> intro hc <;> (first | replace hc := DecT.imp hc | simp only [decs] at hc | skip)) | refine s_index1n tabOk rfl rfl rfl rfl (by omega) ?_ | refine s_indexn tabOk rfl rfl rfl rfl (by omega) ?_ | refine s_index1 tabOk rfl rfl rfl rfl (by omega) (by omega) ?_ | refine sh_load tabOk (by assumption) rfl rfl rfl rfl (by repeat (first | exact List.Mem.head _ | apply List.Mem.tail)) (by rfl) (by rfl) ?_ | refine sh_loada tabOk (by assumption) rfl rfl rfl rfl (by repeat (first | exact List.Mem.head _ | apply List.Mem.tail)) (by rfl) ?_ | (refine sh_box (by assumption) rfl rfl rfl rfl rfl rfl ?_; intro _ _ _) | (refine sh_alloc tabOk (by assumption) rfl rfl rfl rfl rfl rfl ?_; intro _ _ _) | (refine sh_store tabOk (by assumption) rfl rfl rfl rfl rfl rfl (by repeat (first | exact Upd.here | apply Upd.there)) (by rfl) ?_; intro _ _) | (refine sh_lit tabOk (by assumption) rfl rfl rfl rfl rfl rfl rfl rfl rfl rfl rfl ?_; intro _ _ _) | refine sh_build tabOk rfl rfl rfl rfl rfl rfl ?_)
    · have ha := atV_rng (xs := xs1) (i := (i : Int)) (m := (xs.length : Int) - 1) (by omega) (by omega)
      refine s_call rfl rfl rfl rfl ent28 (c_b10At (cb1.below (Hp.below H14)) (i := (i : Int)) (m := (xs.length : Int) - 1) (by omega) (by omega)) ?_
      rintro _ W15 ⟨rfl, e15⟩
      obtain rfl := e15.symm
      clear e15
      generalize atV xs1 i ((xs.length : Int) - 1) = t at *
      obtain ⟨t, rfl⟩ : ∃ t2 : Nat, t = (t2 : Int) := ⟨t.toNat, by omega⟩
      obtain ⟨⟨q1, q2⟩, ⟨q3, q4⟩, ⟨q5, q6⟩, ⟨q7, q8⟩⟩ := cut_join hk2 hst8 hsp8 hx7 (k := t + 1) (by omega) (by omega)
      have hte : (1 : Int) + (t : Int) = ((t + 1 : Nat) : Int) := by omega
      have cut1 : ∀ {W5 : World} {L : List Res}, Hp W.heap.size W W5 L → rcM (.slice (some ⟨bp, 0, none⟩) ys.length q) ys ∈ L → ACalls Try.prog W.heap.size 29 [.agg #[.string s, .int .i64 st, .int .i64 sp, .slice pa xs.length pc], .int .i64 0, .int .i64 ((1 : Int) + (t : Int))] W5 (fun r W' => ∃ a c, r = .tuple #[.agg #[.string s, .int .i64 st, .int .i64 sp, .slice a (xs.take (t + 1)).length c], .bool true] ∧ Hp W.heap.size W5 W' [fRow (.slice a (xs.take (t + 1)).length c) (xs.take (t + 1))]) := fun H hm => by
        obtain ⟨M, hM, hmM⟩ := rown H hm
        have := hc_impl_CutRecord (s := s) (st := st) (sp := sp) hM hmM (by omega) (by omega) 0 ((t + 1 : Nat) : Int)
        unfold CutH at this
        rw [q1, q2] at this
        rw [hte]
        exact this
      have cut2 : ∀ {W5 : World} {L : List Res}, Hp W.heap.size W W5 L → rcM (.slice (some ⟨bp, 0, none⟩) ys.length q) ys ∈ L → ACalls Try.prog W.heap.size 29 [.agg #[.string s, .int .i64 st, .int .i64 sp, .slice pa xs.length pc], .int .i64 ((1 : Int) + (t : Int)), .int .i64 (xs.length : Int)] W5 (fun r W' => ∃ a c, r = .tuple #[.agg #[.string s, .int .i64 (st + ((t + 1 : Nat) : Int) * sp), .int .i64 sp, .slice a (xs.drop (t + 1)).length c], .bool true] ∧ Hp W.heap.size W5 W' [fRow (.slice a (xs.drop (t + 1)).length c) (xs.drop (t + 1))]) := fun H hm => by
        obtain ⟨M, hM, hmM⟩ := rown H hm
        have := hc_impl_CutRecord (s := s) (st := st) (sp := sp) hM hmM (by omega) (by omega) ((t + 1 : Nat) : Int) (xs.length : Int)
        unfold CutH at this
        rw [q3, q4] at this
        rw [hte]
        exact this
      have lt : (xs.take (t + 1)).length ≤ 1048576 := by rw [List.length_take]; omega
      have ld : (xs.drop (t + 1)).length ≤ 1048576 := by rw [List.length_drop]; omega
      clear q1 q2 q3 q4
      generalize xs.take (t + 1) = x1 at *
      generalize xs.drop (t + 1) = x2 at *
      generalize st + ((t + 1 : Nat) : Int) * sp = st2 at *
      have jn1 : ∀ {W5 : World} {L : List Res} {a a' : Option Addr} {c c' : Nat}, Hp W.heap.size W W5 L → fRow (.slice a x1.length c) x1 ∈ L → fRow (.slice a' x2.length c') x2 ∈ L → ACalls Try.prog W.heap.size 30 [.agg #[.string s, .int .i64 st, .int .i64 sp, .slice a x1.length c], .agg #[.string s, .int .i64 st2, .int .i64 sp, .slice a' x2.length c']] W5 (fun r W' => ∃ a c, r = .tuple #[.agg #[.string s, .int .i64 st, .int .i64 sp, .slice a xs.length c], .bool true] ∧ Hp W.heap.size W5 W' [fRow (.slice a xs.length c) xs]) := fun H hm hm' => by
        have := hc_impl_JoinRecords (s := s) (st := st) (sp := sp) (s' := s) (st' := st2) (sp' := sp) H hm hm' (by omega) (by omega) lt ld
        unfold JnH at this
        rw [q5, q6] at this
        exact this
      have jn2 : ∀ {W5 : World} {L : List Res} {a a' : Option Addr} {c c' : Nat}, Hp W.heap.size W W5 L → fRow (.slice a x1.length c) x1 ∈ L → fRow (.slice a' x2.length c') x2 ∈ L → ACalls Try.prog W.heap.size 30 [.agg #[.string s, .int .i64 st2, .int .i64 sp, .slice a' x2.length c'], .agg #[.string s, .int .i64 st, .int .i64 sp, .slice a x1.length c]] W5 (fun r W' => ∃ a c, r = .tuple #[.agg #[.string ⟨#[]⟩, .int .i64 0, .int .i64 0, .slice a 0 c], .bool false] ∧ Hp W.heap.size W5 W' [fRow (.slice a 0 c) []]) := fun H hm hm' => by
        have := hc_impl_JoinRecords (s := s) (st := st2) (sp := sp) (s' := s) (st' := st) (sp' := sp) H hm' hm (by omega) (by omega) ld lt
        unfold JnH at this
        rw [q7, q8] at this
        exact this
      clear q5 q6 q7 q8
      repeat' (first | refine s_pure tabOk rfl rfl rfl rfl ?_ | refine Stp.imp ?_ | refine aops_nil ?_ | refine aw_regk 52 rfl ?_ | refine aw_seq ?_ | refine s_pass rfl rfl rfl ?_ | refine s_len tabOk rfl rfl rfl rfl ?_ | refine aw_true rfl ?_ | refine aw_false rfl ?_ | refine blk_exit_other rfl ?_ | refine s_arith tabOk rfl rfl rfl rfl (by simp only [InR]; omega) ?_ | ((first | ((fail_if_success refine s_told rfl rfl ?_); refine s_part rfl rfl rfl ?_ ?_) | refine aw_if rfl ?_ ?_) <;> intro hc <;> (first | replace hc := DecT.imp hc | simp only [decs] at hc | skip)) | refine s_index1n tabOk rfl rfl rfl rfl (by omega) ?_ | refine s_indexn tabOk rfl rfl rfl rfl (by omega) ?_ | refine s_index1 tabOk rfl rfl rfl rfl (by omega) (by omega) ?_ | refine sh_load tabOk (by assumption) rfl rfl rfl rfl (by repeat (first | exact List.Mem.head _ | apply List.Mem.tail)) (by rfl) (by rfl) ?_ | refine sh_loada tabOk (by assumption) rfl rfl rfl rfl (by repeat (first | exact List.Mem.head _ | apply List.Mem.tail)) (by rfl) ?_ | (refine sh_box (by assumption) rfl rfl rfl rfl rfl rfl ?_; intro _ _ _) | (refine sh_alloc tabOk (by assumption) rfl rfl rfl rfl rfl rfl ?_; intro _ _ _) | (refine sh_store tabOk (by assumption) rfl rfl rfl rfl rfl rfl (by repeat (first | exact Upd.here | apply Upd.there)) (by rfl) ?_; intro _ _) | (refine sh_lit tabOk (by assumption) rfl rfl rfl rfl rfl rfl rfl rfl rfl rfl rfl ?_; intro _ _ _) | refine sh_build tabOk rfl rfl rfl rfl rfl rfl ?_)
      have H15 : Hp W.heap.size W W14 [.blk b8 [.string s, .int .i64 st, .int .i64 sp, .slice pa xs.length pc] 44, .row 3 1 (.slice (some ⟨be, 0, none⟩) (i + 1) qe) (i + 1) (iC E0), rcM (.slice (some ⟨bp, 0, none⟩) ys.length q) ys] := Hp.picks H14 (by repeat (first | exact Picks.nil | (apply Picks.cons; (repeat (first | exact Pick.here | apply Pick.there)))))
      clear H14
      refine s_call rfl rfl rfl rfl ent29 (cut1 H15 (by repeat (first | exact List.Mem.head _ | apply List.Mem.tail))) ?_
      rintro _ W16 ⟨a16, c16, rfl, g16⟩
      have H16 := Hp.call1 H15 g16
      clear g16 H15
      repeat' (first | refine s_pure tabOk rfl rfl rfl rfl ?_ | refine Stp.imp ?_ | refine aops_nil ?_ | refine aw_regk 52 rfl ?_ | refine aw_seq ?_ | refine s_pass rfl rfl rfl ?_ | refine s_len tabOk rfl rfl rfl rfl ?_ | refine aw_true rfl ?_ | refine aw_false rfl ?_ | refine blk_exit_other rfl ?_ | refine s_arith tabOk rfl rfl rfl rfl (by simp only [InR]; omega) ?_ | ((first | ((fail_if_success refine s_told rfl rfl ?_); refine s_part rfl rfl rfl ?_ ?_) | refine aw_if rfl ?_ ?_) <;> intro hc <;> (first | replace hc := DecT.imp hc | simp only [decs] at hc | skip)) | refine s_index1n tabOk rfl rfl rfl rfl (by omega) ?_ | refine s_indexn tabOk rfl rfl rfl rfl (by omega) ?_ | refine s_index1 tabOk rfl rfl rfl rfl (by omega) (by omega) ?_ | refine sh_load tabOk (by assumption) rfl rfl rfl rfl (by repeat (first | exact List.Mem.head _ | apply List.Mem.tail)) (by rfl) (by rfl) ?_ | refine sh_loada tabOk (by assumption) rfl rfl rfl rfl (by repeat (first | exact List.Mem.head _ | apply List.Mem.tail)) (by rfl) ?_ | (refine sh_box (by assumption) rfl rfl rfl rfl rfl rfl ?_; intro _ _ _) | (refine sh_alloc tabOk (by assumption) rfl rfl rfl rfl rfl rfl ?_; intro _ _ _) | (refine sh_store tabOk (by assumption) rfl rfl rfl rfl rfl rfl (by repeat (first | exact Upd.here | apply Upd.there)) (by rfl) ?_; intro _ _) | (refine sh_lit tabOk (by assumption) rfl rfl rfl rfl rfl rfl rfl rfl rfl rfl rfl ?_; intro _ _ _) | refine sh_build tabOk rfl rfl rfl rfl rfl rfl ?_)
      rename_i b19 W17 H17a W18 H18
      clear H17a H16
      refine s_call rfl rfl rfl rfl ent29 (cut2 H18 (by repeat (first | exact List.Mem.head _ | apply List.Mem.tail))) ?_
      rintro _ W19 ⟨a19, c19, rfl, g19⟩
      have H19 := Hp.call1 H18 g19
      clear g19 H18
      repeat' (first | refine s_pure tabOk rfl rfl rfl rfl ?_ | refine Stp.imp ?_ | refine aops_nil ?_ | refine aw_regk 52 rfl ?_ | refine aw_seq ?_ | refine s_pass rfl rfl rfl ?_ | refine s_len tabOk rfl rfl rfl rfl ?_ | refine aw_true rfl ?_ | refine aw_false rfl ?_ | refine blk_exit_other rfl ?_ | refine s_arith tabOk rfl rfl rfl rfl (by simp only [InR]; omega) ?_ | ((first | ((fail_if_success refine s_told rfl rfl ?_); refine s_part rfl rfl rfl ?_ ?_) | refine aw_if rfl ?_ ?_) <;> intro hc <;> (first | replace hc := DecT.imp hc | simp only [decs] at hc | skip)) | refine s_index1n tabOk rfl rfl rfl rfl (by omega) ?_ | refine s_indexn tabOk rfl rfl rfl rfl (by omega) ?_ | refine s_index1 tabOk rfl rfl rfl rfl (by omega) (by omega) ?_ | refine sh_load tabOk (by assumption) rfl rfl rfl rfl (by repeat (first | exact List.Mem.head _ | apply List.Mem.tail)) (by rfl) (by rfl) ?_ | refine sh_loada tabOk (by assumption) rfl rfl rfl rfl (by repeat (first | exact List.Mem.head _ | apply List.Mem.tail)) (by rfl) ?_ | (refine sh_box (by assumption) rfl rfl rfl rfl rfl rfl ?_; intro _ _ _) | (refine sh_alloc tabOk (by assumption) rfl rfl rfl rfl rfl rfl ?_; intro _ _ _) | (refine sh_store tabOk (by assumption) rfl rfl rfl rfl rfl rfl (by repeat (first | exact Upd.here | apply Upd.there)) (by rfl) ?_; intro _ _) | (refine sh_lit tabOk (by assumption) rfl rfl rfl rfl rfl rfl rfl rfl rfl rfl rfl ?_; intro _ _ _) | refine sh_build tabOk rfl rfl rfl rfl rfl rfl ?_)
      rename_i b21 W20 H20a W21 H21
      clear H20a H19
      refine s_call rfl rfl rfl rfl ent30 (jn1 (a := a16) (c := c16) (a' := a19) (c' := c19) H21 (by repeat (first | exact List.Mem.head _ | apply List.Mem.tail)) (by repeat (first | exact List.Mem.head _ | apply List.Mem.tail))) ?_
      rintro _ W22 ⟨a22, c22, rfl, g22⟩
      have H22 := Hp.call1 H21 g22
      clear g22 H21
      repeat' (first | refine s_pure tabOk rfl rfl rfl rfl ?_ | refine Stp.imp ?_ | refine aops_nil ?_ | refine aw_regk 52 rfl ?_ | refine aw_seq ?_ | refine s_pass rfl rfl rfl ?_ | refine s_len tabOk rfl rfl rfl rfl ?_ | refine aw_true rfl ?_ | refine aw_false rfl ?_ | refine blk_exit_other rfl ?_ | refine s_arith tabOk rfl rfl rfl rfl (by simp only [InR]; omega) ?_ | ((first | ((fail_if_success refine s_told rfl rfl ?_); refine s_part rfl rfl rfl ?_ ?_) | refine aw_if rfl ?_ ?_) <;> intro hc <;> (first | replace hc := DecT.imp hc | simp only [decs] at hc | skip)) | refine s_index1n tabOk rfl rfl rfl rfl (by omega) ?_ | refine s_indexn tabOk rfl rfl rfl rfl (by omega) ?_ | refine s_index1 tabOk rfl rfl rfl rfl (by omega) (by omega) ?_ | refine sh_load tabOk (by assumption) rfl rfl rfl rfl (by repeat (first | exact List.Mem.head _ | apply List.Mem.tail)) (by rfl) (by rfl) ?_ | refine sh_loada tabOk (by assumption) rfl rfl rfl rfl (by repeat (first | exact List.Mem.head _ | apply List.Mem.tail)) (by rfl) ?_ | (refine sh_box (by assumption) rfl rfl rfl rfl rfl rfl ?_; intro _ _ _) | (refine sh_alloc tabOk (by assumption) rfl rfl rfl rfl rfl rfl ?_; intro _ _ _) | (refine sh_store tabOk (by assumption) rfl rfl rfl rfl rfl rfl (by repeat (first | exact Upd.here | apply Upd.there)) (by rfl) ?_; intro _ _) | (refine sh_lit tabOk (by assumption) rfl rfl rfl rfl rfl rfl rfl rfl rfl rfl rfl ?_; intro _ _ _) | refine sh_build tabOk rfl rfl rfl rfl rfl rfl ?_)
      rename_i b23 W23 H23a W24 H24
      clear H23a H22
      refine s_call rfl rfl rfl rfl ent30 (jn2 (a := a16) (c := c16) (a' := a19) (c' := c19) H24 (by repeat (first | exact List.Mem.head _ | apply List.Mem.tail)) (by repeat (first | exact List.Mem.head _ | apply List.Mem.tail))) ?_
      rintro _ W25 ⟨a25, c25, rfl, g25⟩
      have H25 := Hp.call1 H24 g25
      clear g25 H24
      repeat' (first | refine s_pure tabOk rfl rfl rfl rfl ?_ | refine Stp.imp ?_ | refine aops_nil ?_ | refine aw_regk 52 rfl ?_ | refine aw_seq ?_ | refine s_pass rfl rfl rfl ?_ | refine s_len tabOk rfl rfl rfl rfl ?_ | refine aw_true rfl ?_ | refine aw_false rfl ?_ | refine blk_exit_other rfl ?_ | refine s_arith tabOk rfl rfl rfl rfl (by simp only [InR]; omega) ?_ | ((first | ((fail_if_success refine s_told rfl rfl ?_); refine s_part rfl rfl rfl ?_ ?_) | refine aw_if rfl ?_ ?_) <;> intro hc <;> (first | replace hc := DecT.imp hc | simp only [decs] at hc | skip)) | refine s_index1n tabOk rfl rfl rfl rfl (by omega) ?_ | refine s_indexn tabOk rfl rfl rfl rfl (by omega) ?_ | refine s_index1 tabOk rfl rfl rfl rfl (by omega) (by omega) ?_ | refine sh_load tabOk (by assumption) rfl rfl rfl rfl (by repeat (first | exact List.Mem.head _ | apply List.Mem.tail)) (by rfl) (by rfl) ?_ | refine sh_loada tabOk (by assumption) rfl rfl rfl rfl (by repeat (first | exact List.Mem.head _ | apply List.Mem.tail)) (by rfl) ?_ | (refine sh_box (by assumption) rfl rfl rfl rfl rfl rfl ?_; intro _ _ _) | (refine sh_alloc tabOk (by assumption) rfl rfl rfl rfl rfl rfl ?_; intro _ _ _) | (refine sh_store tabOk (by assumption) rfl rfl rfl rfl rfl rfl (by repeat (first | exact Upd.here | apply Upd.there)) (by rfl) ?_; intro _ _) | (refine sh_lit tabOk (by assumption) rfl rfl rfl rfl rfl rfl rfl rfl rfl rfl rfl ?_; intro _ _ _) | refine sh_build tabOk rfl rfl rfl rfl rfl rfl ?_)
      rename_i b25 W26 H26a W27 H27
      clear H26a H25
      have H28 : Hp W.heap.size W W27 [.blk b23 [.string s, .int .i64 st, .int .i64 sp, .slice a22 xs.length c22] 44, fRow (.slice a22 xs.length c22) xs, .row 3 1 (.slice (some ⟨be, 0, none⟩) (i + 1) qe) (i + 1) (iC E0), rcM (.slice (some ⟨bp, 0, none⟩) ys.length q) ys] := Hp.picks H27 (by repeat (first | exact Picks.nil | (apply Picks.cons; (repeat (first | exact Pick.here | apply Pick.there)))))
      clear H27
      refine aw_told followsMixed (DH W.heap.size W [.blk b23 [.string s, .int .i64 st, .int .i64 sp, .slice a22 xs.length c22] 44, fRow (.slice a22 xs.length c22) xs, .row 3 1 (.slice (some ⟨be, 0, none⟩) (i + 1) qe) (i + 1) (iC E0), rcM (.slice (some ⟨bp, 0, none⟩) ys.length q) ys]) [0, 1, 2, 3, 4, 5, 6, 7, 8, 9, 10, 11, 12, 13, 14, 16, 17, 18, 19, 20, 15, 21, 22, 23] (by kernel_rfl) (H28.sub (by repeat (first | exact List.nil_sublist _ | refine List.Sublist.cons_cons _ ?_ | refine List.Sublist.cons _ ?_))) ?_
      repeat (first | refine so_pure tabOk lx rfl rfl rfl rfl (by kernel_rfl) ?_ | refine so_load' tabOk lx rfl rfl rfl rfl (by repeat (first | exact List.Mem.head _ | apply List.Mem.tail)) (by rfl) (by rfl) (by kernel_rfl) ?_ | refine so_loada' tabOk lx rfl rfl rfl rfl (by repeat (first | exact List.Mem.head _ | apply List.Mem.tail)) (by rfl) (by kernel_rfl) ?_ | refine so_len tabOk lx rfl rfl rfl rfl (by kernel_rfl) ?_ | refine so_build' tabOk lx rfl rfl rfl rfl rfl rfl (by kernel_rfl) ?_ | refine so_index1n tabOk lx rfl rfl rfl rfl (by omega) (by kernel_rfl) ?_ | refine so_indexn tabOk lx rfl rfl rfl rfl (by omega) (by kernel_rfl) ?_ | refine so_index1 tabOk lx rfl rfl rfl rfl (by omega) (by omega) (by kernel_rfl) ?_ | refine so_pass lx rfl rfl rfl (by kernel_rfl) ?_ | refine so_arith tabOk lx rfl rfl rfl rfl (by simp only [InR]; omega) (by kernel_rfl) ?_)
      refine so_cut tabOk lx rfl rfl rfl rfl (by omega) (by omega) (by omega) hcq (by kernel_rfl) ?_
      rw [sc]
      refine so_single (by kernel_rfl) (th_lit tabOk H28 [21, 22, 23] (by kernel_rfl) rfl rfl rfl rfl rfl rfl rfl rfl rfl rfl rfl (fun _ => (by repeat (first | exact List.nil_sublist _ | refine List.Sublist.cons_cons _ ?_ | refine List.Sublist.cons _ ?_))) ?_)
      intro b29 W29 H29
      refine so_single (by kernel_rfl) (th_call [22, 23] (by kernel_rfl) rfl rfl rfl rfl ent26 (hc_impl_SameRecords (Hp.oneRec (y := ((a22, c22), ⟨s, st, sp, xs⟩)) H29 (by repeat (first | exact List.Mem.head _ | apply List.Mem.tail)) (by repeat (first | exact List.Mem.head _ | apply List.Mem.tail))) (sub H29 (by repeat (first | exact List.Mem.head _ | apply List.Mem.tail)) (by omega)) (tot1 _) (tot1 _) (bd1 _) (bd1 _) (Hp.size H29)) ?_)
      rintro _ W30 ⟨rfl, g30⟩
      have H30 := Hp.call0 H29 g30
      clear g30 H29
      refine ⟨H30.sub (by repeat (first | exact List.nil_sublist _ | refine List.Sublist.cons_cons _ ?_ | refine List.Sublist.cons _ ?_)), ?_⟩
      rw [show smRs ([((a22, c22), (⟨s, st, sp, xs⟩ : Rcd))].map (·.2)) ([((pa, pc), (⟨s, st, sp, xs⟩ : Rcd))].map (·.2)) = true from smRs_self _]
      repeat (first | refine so_pure tabOk lx rfl rfl rfl rfl (by kernel_rfl) ?_ | refine so_load' tabOk lx rfl rfl rfl rfl (by repeat (first | exact List.Mem.head _ | apply List.Mem.tail)) (by rfl) (by rfl) (by kernel_rfl) ?_ | refine so_loada' tabOk lx rfl rfl rfl rfl (by repeat (first | exact List.Mem.head _ | apply List.Mem.tail)) (by rfl) (by kernel_rfl) ?_ | refine so_len tabOk lx rfl rfl rfl rfl (by kernel_rfl) ?_ | refine so_build' tabOk lx rfl rfl rfl rfl rfl rfl (by kernel_rfl) ?_ | refine so_index1n tabOk lx rfl rfl rfl rfl (by omega) (by kernel_rfl) ?_ | refine so_indexn tabOk lx rfl rfl rfl rfl (by omega) (by kernel_rfl) ?_ | refine so_index1 tabOk lx rfl rfl rfl rfl (by omega) (by omega) (by kernel_rfl) ?_ | refine so_pass lx rfl rfl rfl (by kernel_rfl) ?_ | refine so_arith tabOk lx rfl rfl rfl rfl (by simp only [InR]; omega) (by kernel_rfl) ?_)
      refine so_done ?_
      repeat' (first | refine s_pure tabOk rfl rfl rfl rfl ?_ | refine Stp.imp ?_ | refine aops_nil ?_ | refine aw_regk 52 rfl ?_ | refine aw_seq ?_ | refine s_pass rfl rfl rfl ?_ | refine s_len tabOk rfl rfl rfl rfl ?_ | refine aw_true rfl ?_ | refine aw_false rfl ?_ | refine blk_exit_other rfl ?_ | refine s_arith tabOk rfl rfl rfl rfl (by simp only [InR]; omega) ?_ | ((first | ((fail_if_success refine s_told rfl rfl ?_); refine s_part rfl rfl rfl ?_ ?_) | refine aw_if rfl ?_ ?_) <;> intro hc <;> (first | replace hc := DecT.imp hc | simp only [decs] at hc | skip)) | refine s_index1n tabOk rfl rfl rfl rfl (by omega) ?_ | refine s_indexn tabOk rfl rfl rfl rfl (by omega) ?_ | refine s_index1 tabOk rfl rfl rfl rfl (by omega) (by omega) ?_ | refine sh_load tabOk (by assumption) rfl rfl rfl rfl (by repeat (first | exact List.Mem.head _ | apply List.Mem.tail)) (by rfl) (by rfl) ?_ | refine sh_loada tabOk (by assumption) rfl rfl rfl rfl (by repeat (first | exact List.Mem.head _ | apply List.Mem.tail)) (by rfl) ?_ | (refine sh_box (by assumption) rfl rfl rfl rfl rfl rfl ?_; intro _ _ _) | (refine sh_alloc tabOk (by assumption) rfl rfl rfl rfl rfl rfl ?_; intro _ _ _) | (refine sh_store tabOk (by assumption) rfl rfl rfl rfl rfl rfl (by repeat (first | exact Upd.here | apply Upd.there)) (by rfl) ?_; intro _ _) | (refine sh_lit tabOk (by assumption) rfl rfl rfl rfl rfl rfl rfl rfl rfl rfl rfl ?_; intro _ _ _) | refine sh_build tabOk rfl rfl rfl rfl rfl rfl ?_)
      have H31 : Hp W.heap.size W W30 [.row 3 1 (.slice (some ⟨be, 0, none⟩) (i + 1) qe) (i + 1) (iC E0), rcM (.slice (some ⟨bp, 0, none⟩) ys.length q) ys] := Hp.picks H30 (by repeat (first | exact Picks.nil | (apply Picks.cons; (repeat (first | exact Pick.here | apply Pick.there)))))
      clear H30
      have hre := Hp.rowRd H31 (List.Mem.head _)
      refine sh_readT tabOk (f := Value.int .i64) 0 rfl rfl rfl rfl hre rfl (by omega) ?_
      simp only [show (((i + 1 : Nat) : Int) - 1).toNat = i by omega, Nat.zero_add]
      generalize E0.getD i 0 = lastE at *
      repeat' (first | refine s_pure tabOk rfl rfl rfl rfl ?_ | refine Stp.imp ?_ | refine aops_nil ?_ | refine aw_regk 52 rfl ?_ | refine aw_seq ?_ | refine s_pass rfl rfl rfl ?_ | refine s_len tabOk rfl rfl rfl rfl ?_ | refine aw_true rfl ?_ | refine aw_false rfl ?_ | refine blk_exit_other rfl ?_ | refine s_arith tabOk rfl rfl rfl rfl (by simp only [InR]; omega) ?_ | ((first | ((fail_if_success refine s_told rfl rfl ?_); refine s_part rfl rfl rfl ?_ ?_) | refine aw_if rfl ?_ ?_) <;> intro hc <;> (first | replace hc := DecT.imp hc | simp only [decs] at hc | skip)) | refine s_index1n tabOk rfl rfl rfl rfl (by omega) ?_ | refine s_indexn tabOk rfl rfl rfl rfl (by omega) ?_ | refine s_index1 tabOk rfl rfl rfl rfl (by omega) (by omega) ?_ | refine sh_load tabOk (by assumption) rfl rfl rfl rfl (by repeat (first | exact List.Mem.head _ | apply List.Mem.tail)) (by rfl) (by rfl) ?_ | refine sh_loada tabOk (by assumption) rfl rfl rfl rfl (by repeat (first | exact List.Mem.head _ | apply List.Mem.tail)) (by rfl) ?_ | (refine sh_box (by assumption) rfl rfl rfl rfl rfl rfl ?_; intro _ _ _) | (refine sh_alloc tabOk (by assumption) rfl rfl rfl rfl rfl rfl ?_; intro _ _ _) | (refine sh_store tabOk (by assumption) rfl rfl rfl rfl rfl rfl (by repeat (first | exact Upd.here | apply Upd.there)) (by rfl) ?_; intro _ _) | (refine sh_lit tabOk (by assumption) rfl rfl rfl rfl rfl rfl rfl rfl rfl rfl rfl ?_; intro _ _ _) | refine sh_build tabOk rfl rfl rfl rfl rfl rfl ?_)
      refine sh_push tabOk (f := Value.int .i64) (y := lastE + (sS.size : Int)) (ys := E0) (by assumption) rfl rfl rfl rfl rfl rfl rfl rfl (fun _ _ => (by repeat (first | exact Upd.here | apply Upd.there))) (by omega) ?_
      intro a33 c33 W33 H33
      repeat' (first | refine s_pure tabOk rfl rfl rfl rfl ?_ | refine Stp.imp ?_ | refine aops_nil ?_ | refine aw_regk 52 rfl ?_ | refine aw_seq ?_ | refine s_pass rfl rfl rfl ?_ | refine s_len tabOk rfl rfl rfl rfl ?_ | refine aw_true rfl ?_ | refine aw_false rfl ?_ | refine blk_exit_other rfl ?_ | refine s_arith tabOk rfl rfl rfl rfl (by simp only [InR]; omega) ?_ | ((first | ((fail_if_success refine s_told rfl rfl ?_); refine s_part rfl rfl rfl ?_ ?_) | refine aw_if rfl ?_ ?_) <;> intro hc <;> (first | replace hc := DecT.imp hc | simp only [decs] at hc | skip)) | refine s_index1n tabOk rfl rfl rfl rfl (by omega) ?_ | refine s_indexn tabOk rfl rfl rfl rfl (by omega) ?_ | refine s_index1 tabOk rfl rfl rfl rfl (by omega) (by omega) ?_ | refine sh_load tabOk (by assumption) rfl rfl rfl rfl (by repeat (first | exact List.Mem.head _ | apply List.Mem.tail)) (by rfl) (by rfl) ?_ | refine sh_loada tabOk (by assumption) rfl rfl rfl rfl (by repeat (first | exact List.Mem.head _ | apply List.Mem.tail)) (by rfl) ?_ | (refine sh_box (by assumption) rfl rfl rfl rfl rfl rfl ?_; intro _ _ _) | (refine sh_alloc tabOk (by assumption) rfl rfl rfl rfl rfl rfl ?_; intro _ _ _) | (refine sh_store tabOk (by assumption) rfl rfl rfl rfl rfl rfl (by repeat (first | exact Upd.here | apply Upd.there)) (by rfl) ?_; intro _ _) | (refine sh_lit tabOk (by assumption) rfl rfl rfl rfl rfl rfl rfl rfl rfl rfl rfl ?_; intro _ _ _) | refine sh_build tabOk rfl rfl rfl rfl rfl rfl ?_)
      refine rndh_next ⟨i + 1, a33, c33⟩ (by dsimp only; exact ⟨by omega, hsn⟩) (by dsimp only; omega) (by dsimp only; exact (by repeat (first | exact less_nil | refine less_cons rfl ?_))) (by dsimp only; rw [ep]; exact Hp.picks (by assumption) (by repeat (first | exact Picks.nil | (apply Picks.cons; (repeat (first | exact Pick.here | apply Pick.there))))))
    · have H31 : Hp W.heap.size W W14 [.row 3 1 (.slice (some ⟨be, 0, none⟩) (i + 1) qe) (i + 1) (iC E0), rcM (.slice (some ⟨bp, 0, none⟩) ys.length q) ys] := Hp.picks H14 (by repeat (first | exact Picks.nil | (apply Picks.cons; (repeat (first | exact Pick.here | apply Pick.there)))))
      clear H14
      have hre := Hp.rowRd H31 (List.Mem.head _)
      refine sh_readT tabOk (f := Value.int .i64) 0 rfl rfl rfl rfl hre rfl (by omega) ?_
      simp only [show (((i + 1 : Nat) : Int) - 1).toNat = i by omega, Nat.zero_add]
      generalize E0.getD i 0 = lastE at *
      repeat' (first | refine s_pure tabOk rfl rfl rfl rfl ?_ | refine Stp.imp ?_ | refine aops_nil ?_ | refine aw_regk 52 rfl ?_ | refine aw_seq ?_ | refine s_pass rfl rfl rfl ?_ | refine s_len tabOk rfl rfl rfl rfl ?_ | refine aw_true rfl ?_ | refine aw_false rfl ?_ | refine blk_exit_other rfl ?_ | refine s_arith tabOk rfl rfl rfl rfl (by simp only [InR]; omega) ?_ | ((first | ((fail_if_success refine s_told rfl rfl ?_); refine s_part rfl rfl rfl ?_ ?_) | refine aw_if rfl ?_ ?_) <;> intro hc <;> (first | replace hc := DecT.imp hc | simp only [decs] at hc | skip)) | refine s_index1n tabOk rfl rfl rfl rfl (by omega) ?_ | refine s_indexn tabOk rfl rfl rfl rfl (by omega) ?_ | refine s_index1 tabOk rfl rfl rfl rfl (by omega) (by omega) ?_ | refine sh_load tabOk (by assumption) rfl rfl rfl rfl (by repeat (first | exact List.Mem.head _ | apply List.Mem.tail)) (by rfl) (by rfl) ?_ | refine sh_loada tabOk (by assumption) rfl rfl rfl rfl (by repeat (first | exact List.Mem.head _ | apply List.Mem.tail)) (by rfl) ?_ | (refine sh_box (by assumption) rfl rfl rfl rfl rfl rfl ?_; intro _ _ _) | (refine sh_alloc tabOk (by assumption) rfl rfl rfl rfl rfl rfl ?_; intro _ _ _) | (refine sh_store tabOk (by assumption) rfl rfl rfl rfl rfl rfl (by repeat (first | exact Upd.here | apply Upd.there)) (by rfl) ?_; intro _ _) | (refine sh_lit tabOk (by assumption) rfl rfl rfl rfl rfl rfl rfl rfl rfl rfl rfl ?_; intro _ _ _) | refine sh_build tabOk rfl rfl rfl rfl rfl rfl ?_)
      refine sh_push tabOk (f := Value.int .i64) (y := lastE + (sS.size : Int)) (ys := E0) (by assumption) rfl rfl rfl rfl rfl rfl rfl rfl (fun _ _ => (by repeat (first | exact Upd.here | apply Upd.there))) (by omega) ?_
      intro a33 c33 W33 H33
      repeat' (first | refine s_pure tabOk rfl rfl rfl rfl ?_ | refine Stp.imp ?_ | refine aops_nil ?_ | refine aw_regk 52 rfl ?_ | refine aw_seq ?_ | refine s_pass rfl rfl rfl ?_ | refine s_len tabOk rfl rfl rfl rfl ?_ | refine aw_true rfl ?_ | refine aw_false rfl ?_ | refine blk_exit_other rfl ?_ | refine s_arith tabOk rfl rfl rfl rfl (by simp only [InR]; omega) ?_ | ((first | ((fail_if_success refine s_told rfl rfl ?_); refine s_part rfl rfl rfl ?_ ?_) | refine aw_if rfl ?_ ?_) <;> intro hc <;> (first | replace hc := DecT.imp hc | simp only [decs] at hc | skip)) | refine s_index1n tabOk rfl rfl rfl rfl (by omega) ?_ | refine s_indexn tabOk rfl rfl rfl rfl (by omega) ?_ | refine s_index1 tabOk rfl rfl rfl rfl (by omega) (by omega) ?_ | refine sh_load tabOk (by assumption) rfl rfl rfl rfl (by repeat (first | exact List.Mem.head _ | apply List.Mem.tail)) (by rfl) (by rfl) ?_ | refine sh_loada tabOk (by assumption) rfl rfl rfl rfl (by repeat (first | exact List.Mem.head _ | apply List.Mem.tail)) (by rfl) ?_ | (refine sh_box (by assumption) rfl rfl rfl rfl rfl rfl ?_; intro _ _ _) | (refine sh_alloc tabOk (by assumption) rfl rfl rfl rfl rfl rfl ?_; intro _ _ _) | (refine sh_store tabOk (by assumption) rfl rfl rfl rfl rfl rfl (by repeat (first | exact Upd.here | apply Upd.there)) (by rfl) ?_; intro _ _) | (refine sh_lit tabOk (by assumption) rfl rfl rfl rfl rfl rfl rfl rfl rfl rfl rfl ?_; intro _ _ _) | refine sh_build tabOk rfl rfl rfl rfl rfl rfl ?_)
      refine rndh_next ⟨i + 1, a33, c33⟩ (by dsimp only; exact ⟨by omega, hsn⟩) (by dsimp only; omega) (by dsimp only; exact (by repeat (first | exact less_nil | refine less_cons rfl ?_))) (by dsimp only; rw [ep]; exact Hp.picks (by assumption) (by repeat (first | exact Picks.nil | (apply Picks.cons; (repeat (first | exact Pick.here | apply Pick.there))))))
  have hil : i = ys.length := by omega
  subst hil
  obtain ⟨ht1, ht2⟩ := hgy.fits
  obtain ⟨sr1, sr2⟩ := hgy.sr (by omega)
  have hrl : (ys.map (·.2)).length = ys.length := by simp
  obtain ⟨rv1, rv2⟩ := rv_all hgood (by omega)
  have hcl := catR_len _ hgood
  have tk : (ys.map (·.2)).take ys.length = ys.map (·.2) := by rw [← hrl, List.take_length]
  have eg : ∀ j, j ≤ ys.length → (eL (ys.map (·.2)) ys.length).getD j 0 = ((catR ((ys.map (·.2)).take j)).size : Int) := fun j hj => eL_get hj
  have hEl := eL_len (ys.map (·.2)) ys.length
  have last : (eL (ys.map (·.2)) ys.length).getD ys.length 0 = ((catR (ys.map (·.2))).size : Int) := by rw [eg _ (Nat.le_refl _), tk]
  have sto : ∀ {W5 : World} {L : List Res}, Hp W.heap.size W W5 L → rcM (.slice p ys.length q) ys ∈ L → ACalls Try.prog W.heap.size 31 [.slice p ys.length q] W5 (fun r W' => r = .tuple #[.string (catR (ys.map (·.2))), .bool true] ∧ Hp W.heap.size W5 W' []) := fun H hm => by
    have := hc_impl_StoreRecords (B := W.heap.size) (Hp.slc H hm) (by omega) ht2 (Hp.size H)
    unfold SrH at this
    rw [sr1, sr2] at this
    exact this
  have reca : ∀ {W5 : World} {L : List Res}, Hp W.heap.size W W5 L → ACalls Try.prog W.heap.size 32 [.string (catR (ys.map (·.2)))] W5 (fun r W' => ∃ p k us, r = .tuple #[.slice p ys.length k, .int .i64 (catR (ys.map (·.2))).size, .bool true] ∧ us.map (·.2) = ys.map (·.2) ∧ Hp W.heap.size W5 W' [rcM (.slice p ys.length k) us]) := fun H => by
    have := hc_impl_RecoverRecords (B := W.heap.size) (s := catR (ys.map (·.2))) (by omega) (Hp.size H)
    unfold RvH at this
    rw [rv1, rv2, hrl] at this
    exact this
  have same : ∀ {W5 : World} {L : List Res} {k : Nat} {pu : Option Addr} {us : List RcY}, Hp W.heap.size W W5 L → rcM (.slice pu ys.length k) us ∈ L → rcM (.slice p ys.length q) ys ∈ L → us.map (·.2) = ys.map (·.2) → ACalls Try.prog W.heap.size 26 [.slice pu ys.length k, .slice p ys.length q] W5 (fun u W' => u = .bool true ∧ Hp W.heap.size W5 W' []) := fun {W5 L k pu us} H hm hm' e => by
    have hlu : us.length = ys.length := sameC.len (ys := ys) (zs := us) e
    have htu : totC us = totC ys := sameC.tot (ys := ys) (zs := us) e
    have hbu : BdC us := fun j hj => by
      rw [sameC.get (ys := ys) (zs := us) e (j := j) (by omega)]
      exact ht2 j (by omega)
    have hsu := Hp.slc H hm
    have := hc_impl_SameRecords (B := W.heap.size) (v := .slice pu ys.length k) (ys := us) hsu (Hp.slc H hm') (by omega) (by omega) hbu ht2 (Hp.size H)
    rw [e, smRs_self] at this
    exact this
  have rva := rv_again
  have rbd := fun (s : ByteArray) (us : List RcY) (e : us.map (·.2) = rvL s) => rvL_bdC e
  have rto := fun (s : ByteArray) (us : List RcY) (e : us.map (·.2) = rvL s) => rvL_tot e
  have cutp := fun (k c : Nat) => cut_part (rs := ys.map (·.2)) (k := k) (c := c) hgood (by omega)
  have bent := fun (k c : Nat) (t : ByteArray) => bent_more (rs := ys.map (·.2)) (k := k) (c := c) (t := t) hgood (by omega)
  obtain ⟨be, rfl⟩ := Hp.row_ptr H3 (List.Mem.head _) (by omega)
  clear hcs ht1 sr1 sr2
  generalize hES : eL (ys.map (·.2)) ys.length = E0 at *
  clear hES
  repeat' (first | refine s_pure tabOk rfl rfl rfl rfl ?_ | refine Stp.imp ?_ | refine aops_nil ?_ | refine aw_regk 52 rfl ?_ | refine aw_seq ?_ | refine s_pass rfl rfl rfl ?_ | refine s_len tabOk rfl rfl rfl rfl ?_ | refine aw_true rfl ?_ | refine aw_false rfl ?_ | refine blk_exit_other rfl ?_ | refine s_arith tabOk rfl rfl rfl rfl (by simp only [InR]; omega) ?_ | ((first | ((fail_if_success refine s_told rfl rfl ?_); refine s_part rfl rfl rfl ?_ ?_) | refine aw_if rfl ?_ ?_) <;> intro hc <;> (first | replace hc := DecT.imp hc | simp only [decs] at hc | skip)) | refine s_index1n tabOk rfl rfl rfl rfl (by omega) ?_ | refine s_indexn tabOk rfl rfl rfl rfl (by omega) ?_ | refine s_index1 tabOk rfl rfl rfl rfl (by omega) (by omega) ?_ | refine sh_load tabOk (by assumption) rfl rfl rfl rfl (by repeat (first | exact List.Mem.head _ | apply List.Mem.tail)) (by rfl) (by rfl) ?_ | refine sh_loada tabOk (by assumption) rfl rfl rfl rfl (by repeat (first | exact List.Mem.head _ | apply List.Mem.tail)) (by rfl) ?_ | (refine sh_box (by assumption) rfl rfl rfl rfl rfl rfl ?_; intro _ _ _) | (refine sh_alloc tabOk (by assumption) rfl rfl rfl rfl rfl rfl ?_; intro _ _ _) | (refine sh_store tabOk (by assumption) rfl rfl rfl rfl rfl rfl (by repeat (first | exact Upd.here | apply Upd.there)) (by rfl) ?_; intro _ _) | (refine sh_lit tabOk (by assumption) rfl rfl rfl rfl rfl rfl rfl rfl rfl rfl rfl ?_; intro _ _ _) | refine sh_build tabOk rfl rfl rfl rfl rfl rfl ?_)
  all_goals try (exfalso; omega)
  refine s_call rfl rfl rfl rfl ent31 (sto H3 (by repeat (first | exact List.Mem.head _ | apply List.Mem.tail))) ?_
  rintro _ W4 ⟨rfl, g4⟩
  have H4 := Hp.call0 H3 g4
  clear g4 H3
  repeat' (first | refine s_pure tabOk rfl rfl rfl rfl ?_ | refine Stp.imp ?_ | refine aops_nil ?_ | refine aw_regk 43 rfl ?_ | refine aw_seq ?_ | refine s_pass rfl rfl rfl ?_ | refine s_len tabOk rfl rfl rfl rfl ?_ | refine aw_true rfl ?_ | refine aw_false rfl ?_ | refine blk_exit_other rfl ?_ | refine s_arith tabOk rfl rfl rfl rfl (by simp only [InR]; omega) ?_ | ((first | ((fail_if_success refine s_told rfl rfl ?_); refine s_part rfl rfl rfl ?_ ?_) | refine aw_if rfl ?_ ?_) <;> intro hc <;> (first | replace hc := DecT.imp hc | simp only [decs] at hc | skip)) | refine s_index1n tabOk rfl rfl rfl rfl (by omega) ?_ | refine s_indexn tabOk rfl rfl rfl rfl (by omega) ?_ | refine s_index1 tabOk rfl rfl rfl rfl (by omega) (by omega) ?_ | refine sh_load tabOk (by assumption) rfl rfl rfl rfl (by repeat (first | exact List.Mem.head _ | apply List.Mem.tail)) (by rfl) (by rfl) ?_ | refine sh_loada tabOk (by assumption) rfl rfl rfl rfl (by repeat (first | exact List.Mem.head _ | apply List.Mem.tail)) (by rfl) ?_ | (refine sh_box (by assumption) rfl rfl rfl rfl rfl rfl ?_; intro _ _ _) | (refine sh_alloc tabOk (by assumption) rfl rfl rfl rfl rfl rfl ?_; intro _ _ _) | (refine sh_store tabOk (by assumption) rfl rfl rfl rfl rfl rfl (by repeat (first | exact Upd.here | apply Upd.there)) (by rfl) ?_; intro _ _) | (refine sh_lit tabOk (by assumption) rfl rfl rfl rfl rfl rfl rfl rfl rfl rfl rfl ?_; intro _ _ _) | refine sh_build tabOk rfl rfl rfl rfl rfl rfl ?_)
  refine s_call rfl rfl rfl rfl ent32 (reca H4) ?_
  rintro _ W5 ⟨p5, k5, u5, rfl, e5, g5⟩
  have H5 := Hp.call1 H4 g5
  clear g5 H4
  have hre := Hp.rowRd H5 (List.Mem.tail _ (List.Mem.head _))
  generalize hall : catR (ys.map (·.2)) = all at *
  repeat' (first | refine s_pure tabOk rfl rfl rfl rfl ?_ | refine Stp.imp ?_ | refine aops_nil ?_ | refine aw_regk 43 rfl ?_ | refine aw_seq ?_ | refine s_pass rfl rfl rfl ?_ | refine s_len tabOk rfl rfl rfl rfl ?_ | refine aw_true rfl ?_ | refine aw_false rfl ?_ | refine blk_exit_other rfl ?_ | refine s_arith tabOk rfl rfl rfl rfl (by simp only [InR]; omega) ?_ | ((first | ((fail_if_success refine s_told rfl rfl ?_); refine s_part rfl rfl rfl ?_ ?_) | refine aw_if rfl ?_ ?_) <;> intro hc <;> (first | replace hc := DecT.imp hc | simp only [decs] at hc | skip)) | refine s_index1n tabOk rfl rfl rfl rfl (by omega) ?_ | refine s_indexn tabOk rfl rfl rfl rfl (by omega) ?_ | refine s_index1 tabOk rfl rfl rfl rfl (by omega) (by omega) ?_ | refine sh_load tabOk (by assumption) rfl rfl rfl rfl (by repeat (first | exact List.Mem.head _ | apply List.Mem.tail)) (by rfl) (by rfl) ?_ | refine sh_loada tabOk (by assumption) rfl rfl rfl rfl (by repeat (first | exact List.Mem.head _ | apply List.Mem.tail)) (by rfl) ?_ | (refine sh_box (by assumption) rfl rfl rfl rfl rfl rfl ?_; intro _ _ _) | (refine sh_alloc tabOk (by assumption) rfl rfl rfl rfl rfl rfl ?_; intro _ _ _) | (refine sh_store tabOk (by assumption) rfl rfl rfl rfl rfl rfl (by repeat (first | exact Upd.here | apply Upd.there)) (by rfl) ?_; intro _ _) | (refine sh_lit tabOk (by assumption) rfl rfl rfl rfl rfl rfl rfl rfl rfl rfl rfl ?_; intro _ _ _) | refine sh_build tabOk rfl rfl rfl rfl rfl rfl ?_)
  all_goals try (exfalso; omega)
  refine sh_readT tabOk (f := Value.int .i64) 0 rfl rfl rfl rfl hre rfl (by omega) ?_
  simp only [Int.toNat_natCast]
  rw [last]
  repeat' (first | refine s_pure tabOk rfl rfl rfl rfl ?_ | refine Stp.imp ?_ | refine aops_nil ?_ | refine aw_regk 43 rfl ?_ | refine aw_seq ?_ | refine s_pass rfl rfl rfl ?_ | refine s_len tabOk rfl rfl rfl rfl ?_ | refine aw_true rfl ?_ | refine aw_false rfl ?_ | refine blk_exit_other rfl ?_ | refine s_arith tabOk rfl rfl rfl rfl (by simp only [InR]; omega) ?_ | ((first | ((fail_if_success refine s_told rfl rfl ?_); refine s_part rfl rfl rfl ?_ ?_) | refine aw_if rfl ?_ ?_) <;> intro hc <;> (first | replace hc := DecT.imp hc | simp only [decs] at hc | skip)) | refine s_index1n tabOk rfl rfl rfl rfl (by omega) ?_ | refine s_indexn tabOk rfl rfl rfl rfl (by omega) ?_ | refine s_index1 tabOk rfl rfl rfl rfl (by omega) (by omega) ?_ | refine sh_load tabOk (by assumption) rfl rfl rfl rfl (by repeat (first | exact List.Mem.head _ | apply List.Mem.tail)) (by rfl) (by rfl) ?_ | refine sh_loada tabOk (by assumption) rfl rfl rfl rfl (by repeat (first | exact List.Mem.head _ | apply List.Mem.tail)) (by rfl) ?_ | (refine sh_box (by assumption) rfl rfl rfl rfl rfl rfl ?_; intro _ _ _) | (refine sh_alloc tabOk (by assumption) rfl rfl rfl rfl rfl rfl ?_; intro _ _ _) | (refine sh_store tabOk (by assumption) rfl rfl rfl rfl rfl rfl (by repeat (first | exact Upd.here | apply Upd.there)) (by rfl) ?_; intro _ _) | (refine sh_lit tabOk (by assumption) rfl rfl rfl rfl rfl rfl rfl rfl rfl rfl rfl ?_; intro _ _ _) | refine sh_build tabOk rfl rfl rfl rfl rfl rfl ?_)
  all_goals try (exfalso; omega)
  refine s_call rfl rfl rfl rfl ent26 (same H5 (by repeat (first | exact List.Mem.head _ | apply List.Mem.tail)) (by repeat (first | exact List.Mem.head _ | apply List.Mem.tail)) e5) ?_
  rintro _ W6 ⟨rfl, g6⟩
  have H6 : Hp W.heap.size W W6 [.row 3 1 (.slice (some ⟨be, 0, none⟩) (ys.length + 1) qe) (ys.length + 1) (iC E0), rcM (.slice p ys.length q) ys] := Hp.picks (Hp.call0 H5 g6) (by repeat (first | exact Picks.nil | (apply Picks.cons; (repeat (first | exact Pick.here | apply Pick.there)))))
  clear g6 H5
  repeat' (first | refine s_pure tabOk rfl rfl rfl rfl ?_ | refine Stp.imp ?_ | refine aops_nil ?_ | refine aw_regk 43 rfl ?_ | refine aw_seq ?_ | refine s_pass rfl rfl rfl ?_ | refine s_len tabOk rfl rfl rfl rfl ?_ | refine aw_true rfl ?_ | refine aw_false rfl ?_ | refine blk_exit_other rfl ?_ | refine s_arith tabOk rfl rfl rfl rfl (by simp only [InR]; omega) ?_ | ((first | ((fail_if_success refine s_told rfl rfl ?_); refine s_part rfl rfl rfl ?_ ?_) | refine aw_if rfl ?_ ?_) <;> intro hc <;> (first | replace hc := DecT.imp hc | simp only [decs] at hc | skip)) | refine s_index1n tabOk rfl rfl rfl rfl (by omega) ?_ | refine s_indexn tabOk rfl rfl rfl rfl (by omega) ?_ | refine s_index1 tabOk rfl rfl rfl rfl (by omega) (by omega) ?_ | refine sh_load tabOk (by assumption) rfl rfl rfl rfl (by repeat (first | exact List.Mem.head _ | apply List.Mem.tail)) (by rfl) (by rfl) ?_ | refine sh_loada tabOk (by assumption) rfl rfl rfl rfl (by repeat (first | exact List.Mem.head _ | apply List.Mem.tail)) (by rfl) ?_ | (refine sh_box (by assumption) rfl rfl rfl rfl rfl rfl ?_; intro _ _ _) | (refine sh_alloc tabOk (by assumption) rfl rfl rfl rfl rfl rfl ?_; intro _ _ _) | (refine sh_store tabOk (by assumption) rfl rfl rfl rfl rfl rfl (by repeat (first | exact Upd.here | apply Upd.there)) (by rfl) ?_; intro _ _) | (refine sh_lit tabOk (by assumption) rfl rfl rfl rfl rfl rfl rfl rfl rfl rfl rfl ?_; intro _ _ _) | refine sh_build tabOk rfl rfl rfl rfl rfl rfl ?_)
  all_goals try (exfalso; omega)
  · refine retK_ret tabOk (congrArg Array.toList Try.results5) (by repeat (first | exact rv_nil | apply rv_tmp rfl rfl | apply rv_cellH (by assumption) rfl rfl rfl (by repeat (first | exact List.Mem.head _ | apply List.Mem.tail)) rfl)) ?_
    exact ⟨rfl, Hp.below (by assumption)⟩
  have hn := hc
  clear hc
  refine s_call rfl rfl rfl rfl ent28 (c_b10At (cb1.below (Hp.below H6)) (i := 0) (m := 256) (by omega) (by omega)) ?_
  rintro _ W7 ⟨rfl, e7⟩
  obtain rfl := e7.symm
  clear e7
  have t0 := atV_rng (xs := xs1) (i := 0) (m := 256) (by omega) (by omega)
  generalize atV xs1 0 256 = z0 at *
  repeat' (first | refine s_pure tabOk rfl rfl rfl rfl ?_ | refine Stp.imp ?_ | refine aops_nil ?_ | refine aw_regk 43 rfl ?_ | refine aw_seq ?_ | refine s_pass rfl rfl rfl ?_ | refine s_len tabOk rfl rfl rfl rfl ?_ | refine aw_true rfl ?_ | refine aw_false rfl ?_ | refine blk_exit_other rfl ?_ | refine s_arith tabOk rfl rfl rfl rfl (by simp only [InR]; omega) ?_ | ((first | ((fail_if_success refine s_told rfl rfl ?_); refine s_part rfl rfl rfl ?_ ?_) | refine aw_if rfl ?_ ?_) <;> intro hc <;> (first | replace hc := DecT.imp hc | simp only [decs] at hc | skip)) | refine s_index1n tabOk rfl rfl rfl rfl (by omega) ?_ | refine s_indexn tabOk rfl rfl rfl rfl (by omega) ?_ | refine s_index1 tabOk rfl rfl rfl rfl (by omega) (by omega) ?_ | refine sh_load tabOk (by assumption) rfl rfl rfl rfl (by repeat (first | exact List.Mem.head _ | apply List.Mem.tail)) (by rfl) (by rfl) ?_ | refine sh_loada tabOk (by assumption) rfl rfl rfl rfl (by repeat (first | exact List.Mem.head _ | apply List.Mem.tail)) (by rfl) ?_ | (refine sh_box (by assumption) rfl rfl rfl rfl rfl rfl ?_; intro _ _ _) | (refine sh_alloc tabOk (by assumption) rfl rfl rfl rfl rfl rfl ?_; intro _ _ _) | (refine sh_store tabOk (by assumption) rfl rfl rfl rfl rfl rfl (by repeat (first | exact Upd.here | apply Upd.there)) (by rfl) ?_; intro _ _) | (refine sh_lit tabOk (by assumption) rfl rfl rfl rfl rfl rfl rfl rfl rfl rfl rfl ?_; intro _ _ _) | refine sh_build tabOk rfl rfl rfl rfl rfl rfl ?_)
  refine s_call rfl rfl rfl rfl ent28 (c_b10At (cb1.below (Hp.below H6)) (i := 1) (m := 256) (by omega) (by omega)) ?_
  rintro _ W7 ⟨rfl, e7⟩
  obtain rfl := e7.symm
  clear e7
  have t1 := atV_rng (xs := xs1) (i := 1) (m := 256) (by omega) (by omega)
  generalize atV xs1 1 256 = z1 at *
  repeat' (first | refine s_pure tabOk rfl rfl rfl rfl ?_ | refine Stp.imp ?_ | refine aops_nil ?_ | refine aw_regk 43 rfl ?_ | refine aw_seq ?_ | refine s_pass rfl rfl rfl ?_ | refine s_len tabOk rfl rfl rfl rfl ?_ | refine aw_true rfl ?_ | refine aw_false rfl ?_ | refine blk_exit_other rfl ?_ | refine s_arith tabOk rfl rfl rfl rfl (by simp only [InR]; omega) ?_ | ((first | ((fail_if_success refine s_told rfl rfl ?_); refine s_part rfl rfl rfl ?_ ?_) | refine aw_if rfl ?_ ?_) <;> intro hc <;> (first | replace hc := DecT.imp hc | simp only [decs] at hc | skip)) | refine s_index1n tabOk rfl rfl rfl rfl (by omega) ?_ | refine s_indexn tabOk rfl rfl rfl rfl (by omega) ?_ | refine s_index1 tabOk rfl rfl rfl rfl (by omega) (by omega) ?_ | refine sh_load tabOk (by assumption) rfl rfl rfl rfl (by repeat (first | exact List.Mem.head _ | apply List.Mem.tail)) (by rfl) (by rfl) ?_ | refine sh_loada tabOk (by assumption) rfl rfl rfl rfl (by repeat (first | exact List.Mem.head _ | apply List.Mem.tail)) (by rfl) ?_ | (refine sh_box (by assumption) rfl rfl rfl rfl rfl rfl ?_; intro _ _ _) | (refine sh_alloc tabOk (by assumption) rfl rfl rfl rfl rfl rfl ?_; intro _ _ _) | (refine sh_store tabOk (by assumption) rfl rfl rfl rfl rfl rfl (by repeat (first | exact Upd.here | apply Upd.there)) (by rfl) ?_; intro _ _) | (refine sh_lit tabOk (by assumption) rfl rfl rfl rfl rfl rfl rfl rfl rfl rfl rfl ?_; intro _ _ _) | refine sh_build tabOk rfl rfl rfl rfl rfl rfl ?_)
  refine s_givesv rfl rfl rfl (gives_rem rfl (by omega) (by omega)) ?_
  have c0 := Int.emod_nonneg (256 * z0 + z1) (show (all.size : Int) ≠ 0 by omega)
  have c1 := Int.emod_lt_of_pos (256 * z0 + z1) (show 0 < (all.size : Int) by omega)
  generalize (256 * z0 + z1) % (all.size : Int) = cc at *
  obtain ⟨cu, rfl⟩ : ∃ c2 : Nat, cc = (c2 : Int) := ⟨cc.toNat, by omega⟩
  repeat' (first | refine s_pure tabOk rfl rfl rfl rfl ?_ | refine Stp.imp ?_ | refine aops_nil ?_ | refine aw_regk 43 rfl ?_ | refine aw_seq ?_ | refine s_pass rfl rfl rfl ?_ | refine s_len tabOk rfl rfl rfl rfl ?_ | refine aw_true rfl ?_ | refine aw_false rfl ?_ | refine blk_exit_other rfl ?_ | refine s_arith tabOk rfl rfl rfl rfl (by simp only [InR]; omega) ?_ | ((first | ((fail_if_success refine s_told rfl rfl ?_); refine s_part rfl rfl rfl ?_ ?_) | refine aw_if rfl ?_ ?_) <;> intro hc <;> (first | replace hc := DecT.imp hc | simp only [decs] at hc | skip)) | refine s_index1n tabOk rfl rfl rfl rfl (by omega) ?_ | refine s_indexn tabOk rfl rfl rfl rfl (by omega) ?_ | refine s_index1 tabOk rfl rfl rfl rfl (by omega) (by omega) ?_ | refine sh_load tabOk (by assumption) rfl rfl rfl rfl (by repeat (first | exact List.Mem.head _ | apply List.Mem.tail)) (by rfl) (by rfl) ?_ | refine sh_loada tabOk (by assumption) rfl rfl rfl rfl (by repeat (first | exact List.Mem.head _ | apply List.Mem.tail)) (by rfl) ?_ | (refine sh_box (by assumption) rfl rfl rfl rfl rfl rfl ?_; intro _ _ _) | (refine sh_alloc tabOk (by assumption) rfl rfl rfl rfl rfl rfl ?_; intro _ _ _) | (refine sh_store tabOk (by assumption) rfl rfl rfl rfl rfl rfl (by repeat (first | exact Upd.here | apply Upd.there)) (by rfl) ?_; intro _ _) | (refine sh_lit tabOk (by assumption) rfl rfl rfl rfl rfl rfl rfl rfl rfl rfl rfl ?_; intro _ _ _) | refine sh_build tabOk rfl rfl rfl rfl rfl rfl ?_)
  refine aw_loopH (A := W) (fun k : Nat => [(33, .int .i64 k), (32, .int .i64 cu), (27, .string all), (6, .slice (some ⟨be, 0, none⟩) (ys.length + 1) qe), (5, .slice p ys.length q), (1, .slice a1 xs1.length k1)])
    (fun _ => [.row 3 1 (.slice (some ⟨be, 0, none⟩) (ys.length + 1) qe) (ys.length + 1) (iC E0), rcM (.slice p ys.length q) ys]) (fun k => k ≤ ys.length ∧ (catR ((ys.map (·.2)).take k)).size ≤ cu) (fun k => ys.length - k) 0 ⟨by omega, by rw [List.take_zero, catR_nil]; exact Nat.zero_le _⟩ H6 (by exact (by repeat (first | exact less_nil | refine less_cons rfl ?_))) ?_
  clear H6
  rintro k W7 ⟨hk, hkc⟩ H7
  have hk2 : k < ys.length := by
    rcases Nat.lt_or_ge k ys.length with h | h
    · exact h
    · exfalso
      have : k = ys.length := by omega
      subst this
      rw [tk, hall] at hkc
      omega
  have hre := Hp.rowRd H7 (List.Mem.head _)
  repeat' (first | refine s_pure tabOk rfl rfl rfl rfl ?_ | refine Stp.imp ?_ | refine aops_nil ?_ | refine aw_regk 43 rfl ?_ | refine aw_seq ?_ | refine s_pass rfl rfl rfl ?_ | refine s_len tabOk rfl rfl rfl rfl ?_ | refine aw_true rfl ?_ | refine aw_false rfl ?_ | refine blk_exit_other rfl ?_ | refine s_arith tabOk rfl rfl rfl rfl (by simp only [InR]; omega) ?_ | ((first | ((fail_if_success refine s_told rfl rfl ?_); refine s_part rfl rfl rfl ?_ ?_) | refine aw_if rfl ?_ ?_) <;> intro hc <;> (first | replace hc := DecT.imp hc | simp only [decs] at hc | skip)) | refine s_index1n tabOk rfl rfl rfl rfl (by omega) ?_ | refine s_indexn tabOk rfl rfl rfl rfl (by omega) ?_ | refine s_index1 tabOk rfl rfl rfl rfl (by omega) (by omega) ?_ | refine sh_load tabOk (by assumption) rfl rfl rfl rfl (by repeat (first | exact List.Mem.head _ | apply List.Mem.tail)) (by rfl) (by rfl) ?_ | refine sh_loada tabOk (by assumption) rfl rfl rfl rfl (by repeat (first | exact List.Mem.head _ | apply List.Mem.tail)) (by rfl) ?_ | (refine sh_box (by assumption) rfl rfl rfl rfl rfl rfl ?_; intro _ _ _) | (refine sh_alloc tabOk (by assumption) rfl rfl rfl rfl rfl rfl ?_; intro _ _ _) | (refine sh_store tabOk (by assumption) rfl rfl rfl rfl rfl rfl (by repeat (first | exact Upd.here | apply Upd.there)) (by rfl) ?_; intro _ _) | (refine sh_lit tabOk (by assumption) rfl rfl rfl rfl rfl rfl rfl rfl rfl rfl rfl ?_; intro _ _ _) | refine sh_build tabOk rfl rfl rfl rfl rfl rfl ?_)
  all_goals try (exfalso; omega)
  refine sh_readT tabOk (f := Value.int .i64) 0 rfl rfl rfl rfl hre rfl (by omega) ?_
  rw [show ((k : Int) + 1).toNat = k + 1 by omega, eg (k + 1) (by omega)]
  generalize hnx : (catR ((ys.map (·.2)).take (k + 1))).size = nx at *
  repeat' (first | refine s_pure tabOk rfl rfl rfl rfl ?_ | refine Stp.imp ?_ | refine aops_nil ?_ | refine aw_regk 43 rfl ?_ | refine aw_seq ?_ | refine s_pass rfl rfl rfl ?_ | refine s_len tabOk rfl rfl rfl rfl ?_ | refine aw_true rfl ?_ | refine aw_false rfl ?_ | refine blk_exit_other rfl ?_ | refine s_arith tabOk rfl rfl rfl rfl (by simp only [InR]; omega) ?_ | ((first | ((fail_if_success refine s_told rfl rfl ?_); refine s_part rfl rfl rfl ?_ ?_) | refine aw_if rfl ?_ ?_) <;> intro hc <;> (first | replace hc := DecT.imp hc | simp only [decs] at hc | skip)) | refine s_index1n tabOk rfl rfl rfl rfl (by omega) ?_ | refine s_indexn tabOk rfl rfl rfl rfl (by omega) ?_ | refine s_index1 tabOk rfl rfl rfl rfl (by omega) (by omega) ?_ | refine sh_load tabOk (by assumption) rfl rfl rfl rfl (by repeat (first | exact List.Mem.head _ | apply List.Mem.tail)) (by rfl) (by rfl) ?_ | refine sh_loada tabOk (by assumption) rfl rfl rfl rfl (by repeat (first | exact List.Mem.head _ | apply List.Mem.tail)) (by rfl) ?_ | (refine sh_box (by assumption) rfl rfl rfl rfl rfl rfl ?_; intro _ _ _) | (refine sh_alloc tabOk (by assumption) rfl rfl rfl rfl rfl rfl ?_; intro _ _ _) | (refine sh_store tabOk (by assumption) rfl rfl rfl rfl rfl rfl (by repeat (first | exact Upd.here | apply Upd.there)) (by rfl) ?_; intro _ _) | (refine sh_lit tabOk (by assumption) rfl rfl rfl rfl rfl rfl rfl rfl rfl rfl rfl ?_; intro _ _ _) | refine sh_build tabOk rfl rfl rfl rfl rfl rfl ?_)
  all_goals try (exfalso; omega)
  · refine rndh_next (k + 1) ⟨by omega, by rw [hnx]; omega⟩ (by omega) (by exact (by repeat (first | exact less_nil | refine less_cons rfl ?_))) H7
  obtain ⟨cp1, cp2⟩ := cutp k cu (by omega) hkc (by omega)
  have hkl : ((ys.map (·.2)).take k).length = k := by rw [List.length_take]; omega
  have rec2 : ∀ {W5 : World} {L : List Res}, Hp W.heap.size W W5 L → ACalls Try.prog W.heap.size 32 [.string (all.extract 0 cu)] W5 (fun r W' => ∃ p k2, r = .tuple #[.slice p k k2, .int .i64 (catR ((ys.map (·.2)).take k)).size, .bool true] ∧ Hp W.heap.size W5 W' []) := fun H => by
    have := hc_impl_RecoverRecords (B := W.heap.size) (s := all.extract 0 cu) (by rw [extract_size (by omega)]; omega) (Hp.size H)
    unfold RvH at this
    rw [cp1, cp2, hkl] at this
    exact this.mono fun r W' ⟨p, k2, us, h1, _, h3⟩ => ⟨p, k2, h1, h3.sub (List.nil_sublist _)⟩
  refine s_cutS tabOk rfl rfl rfl rfl (by omega) (by omega) (by omega) ?_
  rw [Int.toNat_natCast, show (0 : Int).toNat = 0 from rfl]
  refine s_call rfl rfl rfl rfl ent32 (rec2 H7) ?_
  rintro _ W8 ⟨p8, k8, rfl, g8⟩
  have H8 := Hp.call0 H7 g8
  clear g8 H7
  have hre := Hp.rowRd H8 (List.Mem.head _)
  have hsk : (catR ((ys.map (·.2)).take k)).size ≤ all.size := by omega
  repeat' (first | refine s_pure tabOk rfl rfl rfl rfl ?_ | refine Stp.imp ?_ | refine aops_nil ?_ | refine aw_regk 43 rfl ?_ | refine aw_seq ?_ | refine s_pass rfl rfl rfl ?_ | refine s_len tabOk rfl rfl rfl rfl ?_ | refine aw_true rfl ?_ | refine aw_false rfl ?_ | refine blk_exit_other rfl ?_ | refine s_arith tabOk rfl rfl rfl rfl (by simp only [InR]; omega) ?_ | ((first | ((fail_if_success refine s_told rfl rfl ?_); refine s_part rfl rfl rfl ?_ ?_) | refine aw_if rfl ?_ ?_) <;> intro hc <;> (first | replace hc := DecT.imp hc | simp only [decs] at hc | skip)) | refine s_index1n tabOk rfl rfl rfl rfl (by omega) ?_ | refine s_indexn tabOk rfl rfl rfl rfl (by omega) ?_ | refine s_index1 tabOk rfl rfl rfl rfl (by omega) (by omega) ?_ | refine sh_load tabOk (by assumption) rfl rfl rfl rfl (by repeat (first | exact List.Mem.head _ | apply List.Mem.tail)) (by rfl) (by rfl) ?_ | refine sh_loada tabOk (by assumption) rfl rfl rfl rfl (by repeat (first | exact List.Mem.head _ | apply List.Mem.tail)) (by rfl) ?_ | (refine sh_box (by assumption) rfl rfl rfl rfl rfl rfl ?_; intro _ _ _) | (refine sh_alloc tabOk (by assumption) rfl rfl rfl rfl rfl rfl ?_; intro _ _ _) | (refine sh_store tabOk (by assumption) rfl rfl rfl rfl rfl rfl (by repeat (first | exact Upd.here | apply Upd.there)) (by rfl) ?_; intro _ _) | (refine sh_lit tabOk (by assumption) rfl rfl rfl rfl rfl rfl rfl rfl rfl rfl rfl ?_; intro _ _ _) | refine sh_build tabOk rfl rfl rfl rfl rfl rfl ?_)
  refine sh_readT tabOk (f := Value.int .i64) 0 rfl rfl rfl rfl hre rfl (by omega) ?_
  try simp only [Int.toNat_natCast]
  rw [eg k (by omega)]
  repeat' (first | refine s_pure tabOk rfl rfl rfl rfl ?_ | refine Stp.imp ?_ | refine aops_nil ?_ | refine aw_regk 43 rfl ?_ | refine aw_seq ?_ | refine s_pass rfl rfl rfl ?_ | refine s_len tabOk rfl rfl rfl rfl ?_ | refine aw_true rfl ?_ | refine aw_false rfl ?_ | refine blk_exit_other rfl ?_ | refine s_arith tabOk rfl rfl rfl rfl (by simp only [InR]; omega) ?_ | ((first | ((fail_if_success refine s_told rfl rfl ?_); refine s_part rfl rfl rfl ?_ ?_) | refine aw_if rfl ?_ ?_) <;> intro hc <;> (first | replace hc := DecT.imp hc | simp only [decs] at hc | skip)) | refine s_index1n tabOk rfl rfl rfl rfl (by omega) ?_ | refine s_indexn tabOk rfl rfl rfl rfl (by omega) ?_ | refine s_index1 tabOk rfl rfl rfl rfl (by omega) (by omega) ?_ | refine sh_load tabOk (by assumption) rfl rfl rfl rfl (by repeat (first | exact List.Mem.head _ | apply List.Mem.tail)) (by rfl) (by rfl) ?_ | refine sh_loada tabOk (by assumption) rfl rfl rfl rfl (by repeat (first | exact List.Mem.head _ | apply List.Mem.tail)) (by rfl) ?_ | (refine sh_box (by assumption) rfl rfl rfl rfl rfl rfl ?_; intro _ _ _) | (refine sh_alloc tabOk (by assumption) rfl rfl rfl rfl rfl rfl ?_; intro _ _ _) | (refine sh_store tabOk (by assumption) rfl rfl rfl rfl rfl rfl (by repeat (first | exact Upd.here | apply Upd.there)) (by rfl) ?_; intro _ _) | (refine sh_lit tabOk (by assumption) rfl rfl rfl rfl rfl rfl rfl rfl rfl rfl rfl ?_; intro _ _ _) | refine sh_build tabOk rfl rfl rfl rfl rfl rfl ?_)
  all_goals try (exfalso; omega)
  refine s_strK tabOk H8 rfl rfl rfl rfl ?_
  intro b9 c9 m9 W9 hc9 H9
  have H10 := Hp.sub (l' := [Rowk b9 (u8s (bI all) ++ List.replicate m9 (.int .u8 0)) 5 (all.size + m9, all.size + m9 + 1)]) H9 (by repeat (first | exact List.nil_sublist _ | refine List.Sublist.cons_cons _ ?_ | refine List.Sublist.cons _ ?_))
  clear H9 H8
  repeat' (first | refine s_pure tabOk rfl rfl rfl rfl ?_ | refine Stp.imp ?_ | refine aops_nil ?_ | refine aw_regk 43 rfl ?_ | refine aw_seq ?_ | refine s_pass rfl rfl rfl ?_ | refine s_len tabOk rfl rfl rfl rfl ?_ | refine aw_true rfl ?_ | refine aw_false rfl ?_ | refine blk_exit_other rfl ?_ | refine s_arith tabOk rfl rfl rfl rfl (by simp only [InR]; omega) ?_ | ((first | ((fail_if_success refine s_told rfl rfl ?_); refine s_part rfl rfl rfl ?_ ?_) | refine aw_if rfl ?_ ?_) <;> intro hc <;> (first | replace hc := DecT.imp hc | simp only [decs] at hc | skip)) | refine s_index1n tabOk rfl rfl rfl rfl (by omega) ?_ | refine s_indexn tabOk rfl rfl rfl rfl (by omega) ?_ | refine s_index1 tabOk rfl rfl rfl rfl (by omega) (by omega) ?_ | refine sh_load tabOk (by assumption) rfl rfl rfl rfl (by repeat (first | exact List.Mem.head _ | apply List.Mem.tail)) (by rfl) (by rfl) ?_ | refine sh_loada tabOk (by assumption) rfl rfl rfl rfl (by repeat (first | exact List.Mem.head _ | apply List.Mem.tail)) (by rfl) ?_ | (refine sh_box (by assumption) rfl rfl rfl rfl rfl rfl ?_; intro _ _ _) | (refine sh_alloc tabOk (by assumption) rfl rfl rfl rfl rfl rfl ?_; intro _ _ _) | (refine sh_store tabOk (by assumption) rfl rfl rfl rfl rfl rfl (by repeat (first | exact Upd.here | apply Upd.there)) (by rfl) ?_; intro _ _) | (refine sh_lit tabOk (by assumption) rfl rfl rfl rfl rfl rfl rfl rfl rfl rfl rfl ?_; intro _ _ _) | refine sh_build tabOk rfl rfl rfl rfl rfl rfl ?_)
  have hbl := bI_len all
  refine aw_told followsMixed (DH W.heap.size W []) [0, 1, 2, 4, 5, 6, 7, 3, 8, 9, 10] (by kernel_rfl) (H10.sub (by repeat (first | exact List.nil_sublist _ | refine List.Sublist.cons_cons _ ?_ | refine List.Sublist.cons _ ?_))) ?_
  repeat (first | refine so_pure tabOk lx rfl rfl rfl rfl (by kernel_rfl) ?_ | refine so_load' tabOk lx rfl rfl rfl rfl (by repeat (first | exact List.Mem.head _ | apply List.Mem.tail)) (by rfl) (by rfl) (by kernel_rfl) ?_ | refine so_loada' tabOk lx rfl rfl rfl rfl (by repeat (first | exact List.Mem.head _ | apply List.Mem.tail)) (by rfl) (by kernel_rfl) ?_ | refine so_len tabOk lx rfl rfl rfl rfl (by kernel_rfl) ?_ | refine so_build' tabOk lx rfl rfl rfl rfl rfl rfl (by kernel_rfl) ?_ | refine so_index1n tabOk lx rfl rfl rfl rfl (by omega) (by kernel_rfl) ?_ | refine so_indexn tabOk lx rfl rfl rfl rfl (by omega) (by kernel_rfl) ?_ | refine so_index1 tabOk lx rfl rfl rfl rfl (by omega) (by omega) (by kernel_rfl) ?_ | refine so_pass lx rfl rfl rfl (by kernel_rfl) ?_ | refine so_arith tabOk lx rfl rfl rfl rfl (by simp only [InR]; omega) (by kernel_rfl) ?_)
  refine so_qcall lx rfl rfl rfl rfl (by kernel_rfl) ent28 (fun _ hD => c_b10At (cb1.below (Hp.below (show Hp W.heap.size W _ _ from hD))) (i := 2) (m := 255) (by omega) (by omega)) ?_
  have t2 := atV_rng (xs := xs1) (i := 2) (m := 255) (by omega) (by omega)
  generalize atV xs1 2 255 = z2 at *
  repeat (first | refine so_pure tabOk lx rfl rfl rfl rfl (by kernel_rfl) ?_ | refine so_load' tabOk lx rfl rfl rfl rfl (by repeat (first | exact List.Mem.head _ | apply List.Mem.tail)) (by rfl) (by rfl) (by kernel_rfl) ?_ | refine so_loada' tabOk lx rfl rfl rfl rfl (by repeat (first | exact List.Mem.head _ | apply List.Mem.tail)) (by rfl) (by kernel_rfl) ?_ | refine so_len tabOk lx rfl rfl rfl rfl (by kernel_rfl) ?_ | refine so_build' tabOk lx rfl rfl rfl rfl rfl rfl (by kernel_rfl) ?_ | refine so_index1n tabOk lx rfl rfl rfl rfl (by omega) (by kernel_rfl) ?_ | refine so_indexn tabOk lx rfl rfl rfl rfl (by omega) (by kernel_rfl) ?_ | refine so_index1 tabOk lx rfl rfl rfl rfl (by omega) (by omega) (by kernel_rfl) ?_ | refine so_pass lx rfl rfl rfl (by kernel_rfl) ?_ | refine so_arith tabOk lx rfl rfl rfl rfl (by simp only [InR]; omega) (by kernel_rfl) ?_)
  refine so_single (by kernel_rfl) (th_yields [8, 9, 10] (by kernel_rfl) rfl rfl rfl (gh_readT tabOk (f := Value.int .u8) (d0 := 0) rfl (rowk_rd (H10.ok _ (List.Mem.head _)) rfl) rfl (by omega)) ?_)
  rintro _ _ ⟨rfl, rfl⟩
  refine ⟨H10.sub (by repeat (first | exact List.nil_sublist _ | refine List.Sublist.cons_cons _ ?_ | refine List.Sublist.cons _ ?_)), ?_⟩
  simp only [Int.toNat_natCast, Nat.zero_add]
  refine so_gives lx rfl rfl rfl (by kernel_rfl) (fun _ _ => gives_evA tabOk rfl) ?_
  rw [wrap_u8]
  generalize hnb : ((bI all).getD cu 0 + (1 + z2)) % 256 = nb
  have hnb2 : 0 ≤ nb ∧ nb < 256 := by omega
  clear hnb
  repeat (first | refine so_pure tabOk lx rfl rfl rfl rfl (by kernel_rfl) ?_ | refine so_load' tabOk lx rfl rfl rfl rfl (by repeat (first | exact List.Mem.head _ | apply List.Mem.tail)) (by rfl) (by rfl) (by kernel_rfl) ?_ | refine so_loada' tabOk lx rfl rfl rfl rfl (by repeat (first | exact List.Mem.head _ | apply List.Mem.tail)) (by rfl) (by kernel_rfl) ?_ | refine so_len tabOk lx rfl rfl rfl rfl (by kernel_rfl) ?_ | refine so_build' tabOk lx rfl rfl rfl rfl rfl rfl (by kernel_rfl) ?_ | refine so_index1n tabOk lx rfl rfl rfl rfl (by omega) (by kernel_rfl) ?_ | refine so_indexn tabOk lx rfl rfl rfl rfl (by omega) (by kernel_rfl) ?_ | refine so_index1 tabOk lx rfl rfl rfl rfl (by omega) (by omega) (by kernel_rfl) ?_ | refine so_pass lx rfl rfl rfl (by kernel_rfl) ?_ | refine so_arith tabOk lx rfl rfl rfl rfl (by simp only [InR]; omega) (by kernel_rfl) ?_)
  try simp only [Int.toNat_natCast, Nat.zero_add]
  refine so_single (by kernel_rfl) (th_storeK tabOk H10 [] (by kernel_rfl) rfl rfl rfl rfl (by repeat (first | exact Upd.here | apply Upd.there)) (by dsimp only; omega) (by simp; omega) (by repeat (first | exact List.nil_sublist _ | refine List.Sublist.cons_cons _ ?_ | refine List.Sublist.cons _ ?_)) ?_)
  intro W11 H11
  refine so_done ?_
  have hset : (u8s (bI all) ++ List.replicate m9 (Value.int .u8 0)).set cu (.int .u8 nb) = u8s ((bI all).set cu nb) ++ List.replicate m9 (.int .u8 0) := by
    rw [List.set_append_left _ _ (by simp; omega)]
    simp only [List.map_set]
  rw [hset] at H11
  have hbr := bent_rng (s := all) (c := cu) hnb2
  have hbb := fun (i : Nat) (hi : i < cu) => bent_bt (s := all) (c := cu) hnb2 hi (by omega)
  have hbn : ((bI all).set cu nb).length = all.size := by rw [List.length_set, hbl]
  generalize (bI all).set cu nb = bs at *
  clear hset
  repeat' (first | refine s_pure tabOk rfl rfl rfl rfl ?_ | refine Stp.imp ?_ | refine aops_nil ?_ | refine aw_regk 43 rfl ?_ | refine aw_seq ?_ | refine s_pass rfl rfl rfl ?_ | refine s_len tabOk rfl rfl rfl rfl ?_ | refine aw_true rfl ?_ | refine aw_false rfl ?_ | refine blk_exit_other rfl ?_ | refine s_arith tabOk rfl rfl rfl rfl (by simp only [InR]; omega) ?_ | ((first | ((fail_if_success refine s_told rfl rfl ?_); refine s_part rfl rfl rfl ?_ ?_) | refine aw_if rfl ?_ ?_) <;> intro hc <;> (first | replace hc := DecT.imp hc | simp only [decs] at hc | skip)) | refine s_index1n tabOk rfl rfl rfl rfl (by omega) ?_ | refine s_indexn tabOk rfl rfl rfl rfl (by omega) ?_ | refine s_index1 tabOk rfl rfl rfl rfl (by omega) (by omega) ?_ | refine sh_load tabOk (by assumption) rfl rfl rfl rfl (by repeat (first | exact List.Mem.head _ | apply List.Mem.tail)) (by rfl) (by rfl) ?_ | refine sh_loada tabOk (by assumption) rfl rfl rfl rfl (by repeat (first | exact List.Mem.head _ | apply List.Mem.tail)) (by rfl) ?_ | (refine sh_box (by assumption) rfl rfl rfl rfl rfl rfl ?_; intro _ _ _) | (refine sh_alloc tabOk (by assumption) rfl rfl rfl rfl rfl rfl ?_; intro _ _ _) | (refine sh_store tabOk (by assumption) rfl rfl rfl rfl rfl rfl (by repeat (first | exact Upd.here | apply Upd.there)) (by rfl) ?_; intro _ _) | (refine sh_lit tabOk (by assumption) rfl rfl rfl rfl rfl rfl rfl rfl rfl rfl rfl ?_; intro _ _ _) | refine sh_build tabOk rfl rfl rfl rfl rfl rfl ?_)
  refine s_bytesStrR tabOk rfl rfl rfl rfl hbn (rowk_rd (H11.ok _ (List.Mem.head _)) rfl) ?_
  have htz : (strOfNums bs).size = all.size := by rw [strOfNums_size, hbn]
  have htk := fun (o : Nat) (ho : o ≤ bs.length) => nums_take hbr ho
  have hmore := bent k cu (strOfNums bs) (by omega) hkc htz hbb
  obtain ⟨v1, v2, v3⟩ := rva (strOfNums bs)
  have bdt := rbd (strOfNums bs)
  have tot := rto (strOfNums bs)
  have rec3 : ∀ {W5 : World} {L : List Res}, Hp W.heap.size W W5 L → ACalls Try.prog W.heap.size 32 [.string (strOfNums bs)] W5 (fun r W' => RvH W.heap.size W5 W' r (strOfNums bs)) := fun H => hc_impl_RecoverRecords (B := W.heap.size) (by omega) (Hp.size H)
  unfold RvH at rec3
  generalize strOfNums bs = tt at *
  generalize rvL tt = lt at *
  generalize rvA tt = o at *
  refine s_call rfl rfl rfl rfl ent32 (rec3 H11) ?_
  rintro _ W12 ⟨p12, k12, u12, rfl, e12, g12⟩
  have H12 := Hp.call1 H11 g12
  clear g12 H11
  have hlu : u12.length = lt.length := by rw [← e12]; simp
  have tot2 := tot u12 e12
  have sto2 : ∀ {W5 : World} {L : List Res}, Hp W.heap.size W W5 L → rcM (.slice p12 lt.length k12) u12 ∈ L → ACalls Try.prog W.heap.size 31 [.slice p12 lt.length k12] W5 (fun r W' => r = .tuple #[.string (tt.extract 0 o), .bool true] ∧ Hp W.heap.size W5 W' []) := fun H hm => by
    have := hc_impl_StoreRecords (B := W.heap.size) (Hp.slc H hm) (by omega) (bdt u12 e12) (Hp.size H)
    unfold SrH at this
    rw [e12, v2, v3] at this
    exact this
  repeat' (first | refine s_pure tabOk rfl rfl rfl rfl ?_ | refine Stp.imp ?_ | refine aops_nil ?_ | refine aw_regk 43 rfl ?_ | refine aw_seq ?_ | refine s_pass rfl rfl rfl ?_ | refine s_len tabOk rfl rfl rfl rfl ?_ | refine aw_true rfl ?_ | refine aw_false rfl ?_ | refine blk_exit_other rfl ?_ | refine s_arith tabOk rfl rfl rfl rfl (by simp only [InR]; omega) ?_ | ((first | ((fail_if_success refine s_told rfl rfl ?_); refine s_part rfl rfl rfl ?_ ?_) | refine aw_if rfl ?_ ?_) <;> intro hc <;> (first | replace hc := DecT.imp hc | simp only [decs] at hc | skip)) | refine s_index1n tabOk rfl rfl rfl rfl (by omega) ?_ | refine s_indexn tabOk rfl rfl rfl rfl (by omega) ?_ | refine s_index1 tabOk rfl rfl rfl rfl (by omega) (by omega) ?_ | refine sh_load tabOk (by assumption) rfl rfl rfl rfl (by repeat (first | exact List.Mem.head _ | apply List.Mem.tail)) (by rfl) (by rfl) ?_ | refine sh_loada tabOk (by assumption) rfl rfl rfl rfl (by repeat (first | exact List.Mem.head _ | apply List.Mem.tail)) (by rfl) ?_ | (refine sh_box (by assumption) rfl rfl rfl rfl rfl rfl ?_; intro _ _ _) | (refine sh_alloc tabOk (by assumption) rfl rfl rfl rfl rfl rfl ?_; intro _ _ _) | (refine sh_store tabOk (by assumption) rfl rfl rfl rfl rfl rfl (by repeat (first | exact Upd.here | apply Upd.there)) (by rfl) ?_; intro _ _) | (refine sh_lit tabOk (by assumption) rfl rfl rfl rfl rfl rfl rfl rfl rfl rfl rfl ?_; intro _ _ _) | refine sh_build tabOk rfl rfl rfl rfl rfl rfl ?_)
  refine s_call rfl rfl rfl rfl ent31 (sto2 H12 (by repeat (first | exact List.Mem.head _ | apply List.Mem.tail))) ?_
  rintro _ W13 ⟨rfl, g13⟩
  have H13 := Hp.call0 H12 g13
  clear g13 H12
  repeat' (first | refine s_pure tabOk rfl rfl rfl rfl ?_ | refine Stp.imp ?_ | refine aops_nil ?_ | refine aw_regk 43 rfl ?_ | refine aw_seq ?_ | refine s_pass rfl rfl rfl ?_ | refine s_len tabOk rfl rfl rfl rfl ?_ | refine aw_true rfl ?_ | refine aw_false rfl ?_ | refine blk_exit_other rfl ?_ | refine s_arith tabOk rfl rfl rfl rfl (by simp only [InR]; omega) ?_ | ((first | ((fail_if_success refine s_told rfl rfl ?_); refine s_part rfl rfl rfl ?_ ?_) | refine aw_if rfl ?_ ?_) <;> intro hc <;> (first | replace hc := DecT.imp hc | simp only [decs] at hc | skip)) | refine s_index1n tabOk rfl rfl rfl rfl (by omega) ?_ | refine s_indexn tabOk rfl rfl rfl rfl (by omega) ?_ | refine s_index1 tabOk rfl rfl rfl rfl (by omega) (by omega) ?_ | refine sh_load tabOk (by assumption) rfl rfl rfl rfl (by repeat (first | exact List.Mem.head _ | apply List.Mem.tail)) (by rfl) (by rfl) ?_ | refine sh_loada tabOk (by assumption) rfl rfl rfl rfl (by repeat (first | exact List.Mem.head _ | apply List.Mem.tail)) (by rfl) ?_ | (refine sh_box (by assumption) rfl rfl rfl rfl rfl rfl ?_; intro _ _ _) | (refine sh_alloc tabOk (by assumption) rfl rfl rfl rfl rfl rfl ?_; intro _ _ _) | (refine sh_store tabOk (by assumption) rfl rfl rfl rfl rfl rfl (by repeat (first | exact Upd.here | apply Upd.there)) (by rfl) ?_; intro _ _) | (refine sh_lit tabOk (by assumption) rfl rfl rfl rfl rfl rfl rfl rfl rfl rfl rfl ?_; intro _ _ _) | refine sh_build tabOk rfl rfl rfl rfl rfl rfl ?_)
  all_goals try (exfalso; omega)
  refine s_cut tabOk rfl rfl rfl rfl (by omega) (by omega) (by omega) (by omega) ?_
  rw [Int.toNat_natCast, show (0 : Int).toNat = 0 from rfl, sliced_lo]
  refine s_bytesStrR tabOk (xs := bs.take o) rfl rfl rfl rfl (by rw [List.length_take]; omega) (rowk_rd (H13.ok _ (List.Mem.tail _ (List.Mem.head _))) (zs := u8s (bs.drop o) ++ List.replicate m9 (.int .u8 0)) (by rw [← List.append_assoc, ← List.map_append, List.take_append_drop])) ?_
  rw [htk o (by omega)]
  generalize tt.extract 0 o = z at *
  repeat' (first | refine s_pure tabOk rfl rfl rfl rfl ?_ | refine Stp.imp ?_ | refine aops_nil ?_ | refine aw_regk 43 rfl ?_ | refine aw_seq ?_ | refine s_pass rfl rfl rfl ?_ | refine s_len tabOk rfl rfl rfl rfl ?_ | refine aw_true rfl ?_ | refine aw_false rfl ?_ | refine blk_exit_other rfl ?_ | refine s_arith tabOk rfl rfl rfl rfl (by simp only [InR]; omega) ?_ | ((first | ((fail_if_success refine s_told rfl rfl ?_); refine s_part rfl rfl rfl ?_ ?_) | refine aw_if rfl ?_ ?_) <;> intro hc <;> (first | replace hc := DecT.imp hc | simp only [decs] at hc | skip)) | refine s_index1n tabOk rfl rfl rfl rfl (by omega) ?_ | refine s_indexn tabOk rfl rfl rfl rfl (by omega) ?_ | refine s_index1 tabOk rfl rfl rfl rfl (by omega) (by omega) ?_ | refine sh_load tabOk (by assumption) rfl rfl rfl rfl (by repeat (first | exact List.Mem.head _ | apply List.Mem.tail)) (by rfl) (by rfl) ?_ | refine sh_loada tabOk (by assumption) rfl rfl rfl rfl (by repeat (first | exact List.Mem.head _ | apply List.Mem.tail)) (by rfl) ?_ | (refine sh_box (by assumption) rfl rfl rfl rfl rfl rfl ?_; intro _ _ _) | (refine sh_alloc tabOk (by assumption) rfl rfl rfl rfl rfl rfl ?_; intro _ _ _) | (refine sh_store tabOk (by assumption) rfl rfl rfl rfl rfl rfl (by repeat (first | exact Upd.here | apply Upd.there)) (by rfl) ?_; intro _ _) | (refine sh_lit tabOk (by assumption) rfl rfl rfl rfl rfl rfl rfl rfl rfl rfl rfl ?_; intro _ _ _) | refine sh_build tabOk rfl rfl rfl rfl rfl rfl ?_)
  refine retK_ret tabOk (congrArg Array.toList Try.results5) (by repeat (first | exact rv_nil | apply rv_tmp rfl rfl | apply rv_cellH (by assumption) rfl rfl rfl (by repeat (first | exact List.Mem.head _ | apply List.Mem.tail)) rfl)) ?_
  exact ⟨by rw [beq_self_eq_true]; rfl, Hp.below (by assumption)⟩
set_option maxRecDepth 100000 in
theorem law_FnRecords {H : Type} {enc : TypeId × Value → H} {W : World} {base : Nat} {v0 v1 : Value} {d0 d1 : DataW H} {p0 p1 : List MemPlace} (k0 : Value.okWide Try.prog W .any base 38 v0) (h0 : DataW.Trod enc Try.prog W 0 (fun _ => true) true 38 v0 d0 p0) (k1 : Value.okWide Try.prog W .any base 38 v1) (h1 : DataW.Trod enc Try.prog W 0 (fun _ => true) true 38 v1 d1 p1) :
    ACalls Try.prog W.heap.size 5 [cv v0, cv v1] (cw W.heap.size W) (fun r W1 => r = .bool true ∧ Below W.heap.size (cw W.heap.size W) W1) := by
  obtain ⟨m0, e0⟩ := h0
  obtain ⟨xs0, x0, f0, g0⟩ := open_u8s (okWide_slice Try.underlying38 k0) e0
  obtain ⟨a0, l0, c0, rfl⟩ := okWide_slice Try.underlying38 k0
  obtain ⟨m1, e1⟩ := h1
  obtain ⟨xs1, x1, f1, g1⟩ := open_u8s (okWide_slice Try.underlying38 k1) e1
  obtain ⟨a1, l1, c1, rfl⟩ := okWide_slice Try.underlying38 k1
  have := c_laws_FnRecords x0 f0 g0 x1 f1 g1
  rw [cw_size] at this
  exact this
set_option maxRecDepth 100000 in
theorem lifted_FnRecords (os : Os) (started : os.Started) (H : Type) (enc : TypeId × Value → H) :
    ReturnsInHanded {} Try.checked os 5 .any (Rows.fnRecordsSpec.pre6 enc Try.prog Try.f5 Rows.fnRecordsRow.domain false) (Rows.fnRecordsSpec.post enc Try.prog Try.f5 false true false false) := by
  refine returnsInHanded_of_change_sized (C := Try.checked) own started (by kernel_rfl) Try.func5 (ChangeSpec.witness6 (enc := enc) (C := Try.checked) false ⟨#[], #[.slice none 0 0, .slice none 0 0], []⟩ 8 (by kernel_rfl) (by kernel_rfl) (by kernel_rfl) (by kernel_rfl)) ?_
  intro W base args ds gs before hval0 hW hcnd hsz0 _
  have hval : ∀ (j : Nat) t v, Try.f5.params[j]? = some t → args[j]? = some v → Value.okWide Try.prog W .any base t v := hval0
  have hW' := hW
  obtain ⟨p, q, hA0, hV, rfl, hfz, hnd⟩ := hW
  have hA : DataW.TrodAll enc Try.prog W 0 (fun _ => true) true Try.f5.params.toList args.toList ds p := hA0
  rw [Try.params5] at hA hval
  have hA1 := hA
  obtain ⟨v0, vs0, d0, ds0, p0, q0, hargs, rfl, rfl, h0, r0⟩ := trodAll_cons hA
  obtain ⟨v1, vs1, d1, ds1, p1, q1, rfl, rfl, rfl, h1, r1⟩ := trodAll_cons r0
  obtain ⟨rfl, rfl, rfl⟩ := trodAll_nil r1
  obtain rfl : args = #[v0, v1] := by cases args; simp_all
  obtain ⟨rfl, rfl⟩ := trodVars_none hV
  refine (acalls_elim (law_FnRecords (hval 0 _ v0 rfl rfl) h0 (hval 1 _ v1 rfl rfl) h1) _ W rfl rfl (Nat.le_refl _)).mono fun e W1 hh => ?_
  obtain ⟨u, he, -, hu, hb⟩ := hh
  have hu' : u = .bool true := cv_bool_inv hu
  subst hu'; subst he
  have bel := below_back hb
  exact ⟨_, rfl, _, _, _, [], _, [], hW', trodAll_mk1 (shut_bool Try.underlying4 _), trodAll_stays laidOut bel _ _ _ _ (by kernel_rfl) hA1, rfl, bel.frame _, fun h => by cases h⟩
theorem over_FnRecords : Rows.fnRecordsRow.holds Try.pinned (OpenSpec.ofChange Rows.fnRecordsSpec) :=
  OpenClaim.holds_of_wide 5 Try.f5 rfl rfl rfl rfl rfl rfl rfl ⟨rfl, rfl, rfl, rfl, rfl⟩ rfl rfl rfl rfl rfl (by kernel_rfl) Try.func5 (by kernel_rfl) (of_decide_eq_true (by kernel_rfl)) (by unfold Func.isWrapper; first | (rw [if_pos (by decide +kernel)]; kernel_rfl) | (rw [if_neg (by decide +kernel)]; exact ⟨rfl, rfl⟩)) (fun os started H enc _ => lifted_FnRecords os started H enc)
theorem holds_FnRecords : Rows.FnRecordsSaid := over_FnRecords
end Go.Proofs.Ytmplincflbhmiaa
