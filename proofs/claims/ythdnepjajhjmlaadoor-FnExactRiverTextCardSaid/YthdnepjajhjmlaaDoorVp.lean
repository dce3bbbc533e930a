/- Rivers as texts, the walks. -/
import Derived.Test.YthdnepjajhjmlaaDoorVo
import Derived.Test.YthdnepjajhjmlaaDoorHm
namespace Go.Proofs.YthdnepjajhjmlaaDoor
set_option linter.unusedSimpArgs false
set_option linter.unusedVariables false
open Go Cn Go.RowKit
theorem catS_nil (c : UInt8) : catS c [] = ⟨#[]⟩ := by unfold catS; rw [List.map_nil, Lib.join_nil]; rfl
theorem catS_three (c : UInt8) (x y z : ByteArray) : catS c [x, y, z] = x ++ ⟨#[c]⟩ ++ y ++ ⟨#[c]⟩ ++ z := by
  have e1 := catS_app c (ws := [x]) (by simp) y
  have e2 := catS_app c (ws := [x, y]) (by simp) z
  rw [catS_one] at e1
  simp only [List.cons_append, List.nil_append] at e1 e2
  rw [e2, e1]
  simp only [ByteArray.append_assoc]
def dmT (d : Dm) : ByteArray := txtI (dmL d)
theorem dmT_size {d : Dm} (h : isL (dmL d) = true) : (dmT d).size ≤ 1408 := txtI_size h
theorem dms_size {r : Riv} (h : ∀ i, i < r.dm.length → isL (dmL (r.dm.getD i dm0)) = true) : ∀ w ∈ r.dm.map dmT, w.size ≤ 1408 := by
  intro w hw
  obtain ⟨x, hx, rfl⟩ := List.mem_map.1 hw
  obtain ⟨i, hi, rfl⟩ := List.getElem_of_mem hx
  have := dmT_size (h i hi)
  rwa [show r.dm.getD i dm0 = r.dm[i] by simp [List.getD_eq_getElem?_getD, hi]] at this
theorem empty_app (x : ByteArray) : (⟨#[]⟩ : ByteArray) ++ x = x := by
  apply ByteArray.ext
  rw [ByteArray.data_append]
  simp
section
variable {B : Nat} {A W W' : World} {L L' : List Res} {p1 p2 p3 : Option Addr} {k1 k2 k3 : Nat} {r : Riv}
set_option maxHeartbeats 4000000 in
theorem c_impl_RiverText (hT : TabG W) (hB : B ≤ W.heap.size) (hv : RvS W p1 k1 p2 k2 p3 k3 r) (hs : r.small) :
    ACalls Tryd.prog B 27 [rvV p1 k1 p2 k2 p3 k3 r] W (fun u W' => u = .tuple #[.string (rtS r), .bool (rvOk r)] ∧ Hp B W W' []) := by
  have H0 : Hp B W W [] := Hp.new hB
  refine acalls_of Tryd.func27 rfl Tryd.ntmps27 (Nat.le_of_ble_eq_true rfl) ?_
  repeat' (first | refine s_pure tabOk rfl rfl rfl rfl ?_ | refine Stp.imp ?_ | refine aops_nil ?_ | refine aw_reg ?_ | refine aw_seq ?_ | refine s_pass rfl rfl rfl ?_ | refine s_len tabOk rfl rfl rfl rfl ?_ | refine aw_true rfl ?_ | refine aw_false rfl ?_ | refine blk_exit_other rfl ?_ | refine s_arith tabOk rfl rfl rfl rfl (by simp only [InR]; omega) ?_ | ((first | ((fail_if_success refine s_told rfl rfl ?_); refine s_part rfl rfl rfl ?_ ?_) | refine aw_if rfl ?_ ?_) <;> intro hc <;> (first | replace hc := DecT.imp hc | simp only [decs] at hc | skip)) | refine s_index1n tabOk rfl rfl rfl rfl (by omega) ?_ | refine s_indexn tabOk rfl rfl rfl rfl (by omega) ?_ | refine s_index1 tabOk rfl rfl rfl rfl (by omega) (by omega) ?_ | refine sh_load tabOk (by assumption) rfl rfl rfl rfl (by repeat (first | exact List.Mem.head _ | apply List.Mem.tail)) (by rfl) (by rfl) ?_ | refine sh_loada tabOk (by assumption) rfl rfl rfl rfl (by repeat (first | exact List.Mem.head _ | apply List.Mem.tail)) (by rfl) ?_ | (refine sh_box (by assumption) rfl rfl rfl rfl rfl rfl ?_; intro _ _ _) | (refine sh_alloc tabOk (by assumption) rfl rfl rfl rfl rfl rfl ?_; intro _ _ _) | (refine sh_store tabOk (by assumption) rfl rfl rfl rfl rfl rfl (by repeat (first | exact Upd.here | apply Upd.there)) (by rfl) ?_; intro _ _) | (refine sh_lit tabOk (by assumption) rfl rfl rfl rfl rfl rfl rfl rfl rfl rfl rfl ?_; intro _ _ _) | refine sh_build tabOk rfl rfl rfl rfl rfl rfl ?_)
  refine s_call rfl rfl rfl rfl ent68 (c_impl_ValidRiver (Hp.size (by assumption)) (Hp.rvA (by assumption) hv) hs) ?_
  rintro _ W2 ⟨rfl, g2⟩
  have H2 := Hp.call0 (by assumption) g2
  cases hok : rvOk r with
  | false =>
    repeat' (first | refine s_pure tabOk rfl rfl rfl rfl ?_ | refine Stp.imp ?_ | refine aops_nil ?_ | refine aw_reg ?_ | refine aw_seq ?_ | refine s_pass rfl rfl rfl ?_ | refine s_len tabOk rfl rfl rfl rfl ?_ | refine aw_true rfl ?_ | refine aw_false rfl ?_ | refine blk_exit_other rfl ?_ | refine s_arith tabOk rfl rfl rfl rfl (by simp only [InR]; omega) ?_ | ((first | ((fail_if_success refine s_told rfl rfl ?_); refine s_part rfl rfl rfl ?_ ?_) | refine aw_if rfl ?_ ?_) <;> intro hc <;> (first | replace hc := DecT.imp hc | simp only [decs] at hc | skip)) | refine s_index1n tabOk rfl rfl rfl rfl (by omega) ?_ | refine s_indexn tabOk rfl rfl rfl rfl (by omega) ?_ | refine s_index1 tabOk rfl rfl rfl rfl (by omega) (by omega) ?_ | refine sh_load tabOk (by assumption) rfl rfl rfl rfl (by repeat (first | exact List.Mem.head _ | apply List.Mem.tail)) (by rfl) (by rfl) ?_ | refine sh_loada tabOk (by assumption) rfl rfl rfl rfl (by repeat (first | exact List.Mem.head _ | apply List.Mem.tail)) (by rfl) ?_ | (refine sh_box (by assumption) rfl rfl rfl rfl rfl rfl ?_; intro _ _ _) | (refine sh_alloc tabOk (by assumption) rfl rfl rfl rfl rfl rfl ?_; intro _ _ _) | (refine sh_store tabOk (by assumption) rfl rfl rfl rfl rfl rfl (by repeat (first | exact Upd.here | apply Upd.there)) (by rfl) ?_; intro _ _) | (refine sh_lit tabOk (by assumption) rfl rfl rfl rfl rfl rfl rfl rfl rfl rfl rfl ?_; intro _ _ _) | refine sh_build tabOk rfl rfl rfl rfl rfl rfl ?_)
    refine retK_ret tabOk (congrArg Array.toList Tryd.results27) (by repeat (first | exact rv_nil | apply rv_tmp rfl rfl | apply rv_cellH (by assumption) rfl rfl rfl (by repeat (first | exact List.Mem.head _ | apply List.Mem.tail)) rfl)) ?_
    exact ⟨by unfold rtS; rw [hok]; rfl, Hp.sub H2 (by repeat (first | exact List.nil_sublist _ | refine List.Sublist.cons_cons _ ?_ | refine List.Sublist.cons _ ?_))⟩
  | true =>
    obtain ⟨n1, n2, n3, n4⟩ := rvOk_len hok
    obtain ⟨i1, i2, i3⟩ := rv_isL hok
    obtain ⟨bd, od, rfl, hrd⟩ := hv.m.read (by omega)
    repeat' (first | refine s_pure tabOk rfl rfl rfl rfl ?_ | refine Stp.imp ?_ | refine aops_nil ?_ | refine aw_reg ?_ | refine aw_seq ?_ | refine s_pass rfl rfl rfl ?_ | refine s_len tabOk rfl rfl rfl rfl ?_ | refine aw_true rfl ?_ | refine aw_false rfl ?_ | refine blk_exit_other rfl ?_ | refine s_arith tabOk rfl rfl rfl rfl (by simp only [InR]; omega) ?_ | ((first | ((fail_if_success refine s_told rfl rfl ?_); refine s_part rfl rfl rfl ?_ ?_) | refine aw_if rfl ?_ ?_) <;> intro hc <;> (first | replace hc := DecT.imp hc | simp only [decs] at hc | skip)) | refine s_index1n tabOk rfl rfl rfl rfl (by omega) ?_ | refine s_indexn tabOk rfl rfl rfl rfl (by omega) ?_ | refine s_index1 tabOk rfl rfl rfl rfl (by omega) (by omega) ?_ | refine sh_load tabOk (by assumption) rfl rfl rfl rfl (by repeat (first | exact List.Mem.head _ | apply List.Mem.tail)) (by rfl) (by rfl) ?_ | refine sh_loada tabOk (by assumption) rfl rfl rfl rfl (by repeat (first | exact List.Mem.head _ | apply List.Mem.tail)) (by rfl) ?_ | (refine sh_box (by assumption) rfl rfl rfl rfl rfl rfl ?_; intro _ _ _) | (refine sh_alloc tabOk (by assumption) rfl rfl rfl rfl rfl rfl ?_; intro _ _ _) | (refine sh_store tabOk (by assumption) rfl rfl rfl rfl rfl rfl (by repeat (first | exact Upd.here | apply Upd.there)) (by rfl) ?_; intro _ _) | (refine sh_lit tabOk (by assumption) rfl rfl rfl rfl rfl rfl rfl rfl rfl rfl rfl ?_; intro _ _ _) | refine sh_build tabOk rfl rfl rfl rfl rfl rfl ?_)
    rename_i b1 X1 G1 b3 W3 H3
    refine aw_loopH (fun x : Nat × Option Addr × Nat => [(14, .int .i64 x.1), (13, .int .i64 r.dm.length), (12, .slice (some ⟨bd, od, none⟩) r.dm.length k2), (4, .slice x.2.1 x.1 x.2.2), (1, .pointer (some ⟨b1, 0, none⟩))])
      (fun x => [.row 9 1 (.slice x.2.1 x.1 x.2.2) x.1 (((r.dm.take x.1).map dmT).map .string), .blk b1 (rvC p1 k1 (some ⟨bd, od, none⟩) k2 p3 k3 r) 42]) (fun x => x.1 ≤ r.dm.length) (fun x => r.dm.length - x.1) (0, some ⟨b3, 0, none⟩, 0) (Nat.zero_le _) (by dsimp only; exact H3.picks (by repeat (first | exact Picks.nil | (apply Picks.cons; (repeat (first | exact Pick.here | apply Pick.there)))))) (by dsimp only; exact (by repeat (first | exact less_nil | refine less_cons rfl ?_))) ?_
    rintro ⟨i, ad, cp⟩ W4 hi H4
    dsimp only at hi H4 ⊢
    repeat' (first | refine s_pure tabOk rfl rfl rfl rfl ?_ | refine Stp.imp ?_ | refine aops_nil ?_ | refine aw_reg ?_ | refine aw_seq ?_ | refine s_pass rfl rfl rfl ?_ | refine s_len tabOk rfl rfl rfl rfl ?_ | refine aw_true rfl ?_ | refine aw_false rfl ?_ | refine blk_exit_other rfl ?_ | refine s_arith tabOk rfl rfl rfl rfl (by simp only [InR]; omega) ?_ | ((first | ((fail_if_success refine s_told rfl rfl ?_); refine s_part rfl rfl rfl ?_ ?_) | refine aw_if rfl ?_ ?_) <;> intro hc <;> (first | replace hc := DecT.imp hc | simp only [decs] at hc | skip)) | refine s_index1n tabOk rfl rfl rfl rfl (by omega) ?_ | refine s_indexn tabOk rfl rfl rfl rfl (by omega) ?_ | refine s_index1 tabOk rfl rfl rfl rfl (by omega) (by omega) ?_ | refine sh_load tabOk (by assumption) rfl rfl rfl rfl (by repeat (first | exact List.Mem.head _ | apply List.Mem.tail)) (by rfl) (by rfl) ?_ | refine sh_loada tabOk (by assumption) rfl rfl rfl rfl (by repeat (first | exact List.Mem.head _ | apply List.Mem.tail)) (by rfl) ?_ | (refine sh_box (by assumption) rfl rfl rfl rfl rfl rfl ?_; intro _ _ _) | (refine sh_alloc tabOk (by assumption) rfl rfl rfl rfl rfl rfl ?_; intro _ _ _) | (refine sh_store tabOk (by assumption) rfl rfl rfl rfl rfl rfl (by repeat (first | exact Upd.here | apply Upd.there)) (by rfl) ?_; intro _ _) | (refine sh_lit tabOk (by assumption) rfl rfl rfl rfl rfl rfl rfl rfl rfl rfl rfl ?_; intro _ _ _) | refine sh_build tabOk rfl rfl rfl rfl rfl rfl ?_)
    · refine sh_readA tabOk dC_len dm0 rfl rfl rfl rfl (H4.rd hrd) rfl (by omega) ?_
      repeat' (first | refine s_pure tabOk rfl rfl rfl rfl ?_ | refine Stp.imp ?_ | refine aops_nil ?_ | refine aw_reg ?_ | refine aw_seq ?_ | refine s_pass rfl rfl rfl ?_ | refine s_len tabOk rfl rfl rfl rfl ?_ | refine aw_true rfl ?_ | refine aw_false rfl ?_ | refine blk_exit_other rfl ?_ | refine s_arith tabOk rfl rfl rfl rfl (by simp only [InR]; omega) ?_ | ((first | ((fail_if_success refine s_told rfl rfl ?_); refine s_part rfl rfl rfl ?_ ?_) | refine aw_if rfl ?_ ?_) <;> intro hc <;> (first | replace hc := DecT.imp hc | simp only [decs] at hc | skip)) | refine s_index1n tabOk rfl rfl rfl rfl (by omega) ?_ | refine s_indexn tabOk rfl rfl rfl rfl (by omega) ?_ | refine s_index1 tabOk rfl rfl rfl rfl (by omega) (by omega) ?_ | refine sh_load tabOk (by assumption) rfl rfl rfl rfl (by repeat (first | exact List.Mem.head _ | apply List.Mem.tail)) (by rfl) (by rfl) ?_ | refine sh_loada tabOk (by assumption) rfl rfl rfl rfl (by repeat (first | exact List.Mem.head _ | apply List.Mem.tail)) (by rfl) ?_ | (refine sh_box (by assumption) rfl rfl rfl rfl rfl rfl ?_; intro _ _ _) | (refine sh_alloc tabOk (by assumption) rfl rfl rfl rfl rfl rfl ?_; intro _ _ _) | (refine sh_store tabOk (by assumption) rfl rfl rfl rfl rfl rfl (by repeat (first | exact Upd.here | apply Upd.there)) (by rfl) ?_; intro _ _) | (refine sh_lit tabOk (by assumption) rfl rfl rfl rfl rfl rfl rfl rfl rfl rfl rfl ?_; intro _ _ _) | refine sh_build tabOk rfl rfl rfl rfl rfl rfl ?_)
      rename_i H5
      refine s_call rfl rfl rfl rfl ent69 (c_listed (hT.hp H5) (xs := dmL (r.dm.getD i dm0)) (Hp.row_sl H5 (by repeat (first | exact List.Mem.head _ | apply List.Mem.tail))) (i3 i (by omega)) (Hp.size H5)) ?_
      rintro _ W6 ⟨rfl, q6⟩
      have H6 := Hp.call0 H5 q6
      repeat' (first | refine s_pure tabOk rfl rfl rfl rfl ?_ | refine Stp.imp ?_ | refine aops_nil ?_ | refine aw_reg ?_ | refine aw_seq ?_ | refine s_pass rfl rfl rfl ?_ | refine s_len tabOk rfl rfl rfl rfl ?_ | refine aw_true rfl ?_ | refine aw_false rfl ?_ | refine blk_exit_other rfl ?_ | refine s_arith tabOk rfl rfl rfl rfl (by simp only [InR]; omega) ?_ | ((first | ((fail_if_success refine s_told rfl rfl ?_); refine s_part rfl rfl rfl ?_ ?_) | refine aw_if rfl ?_ ?_) <;> intro hc <;> (first | replace hc := DecT.imp hc | simp only [decs] at hc | skip)) | refine s_index1n tabOk rfl rfl rfl rfl (by omega) ?_ | refine s_indexn tabOk rfl rfl rfl rfl (by omega) ?_ | refine s_index1 tabOk rfl rfl rfl rfl (by omega) (by omega) ?_ | refine sh_load tabOk (by assumption) rfl rfl rfl rfl (by repeat (first | exact List.Mem.head _ | apply List.Mem.tail)) (by rfl) (by rfl) ?_ | refine sh_loada tabOk (by assumption) rfl rfl rfl rfl (by repeat (first | exact List.Mem.head _ | apply List.Mem.tail)) (by rfl) ?_ | (refine sh_box (by assumption) rfl rfl rfl rfl rfl rfl ?_; intro _ _ _) | (refine sh_alloc tabOk (by assumption) rfl rfl rfl rfl rfl rfl ?_; intro _ _ _) | (refine sh_store tabOk (by assumption) rfl rfl rfl rfl rfl rfl (by repeat (first | exact Upd.here | apply Upd.there)) (by rfl) ?_; intro _ _) | (refine sh_lit tabOk (by assumption) rfl rfl rfl rfl rfl rfl rfl rfl rfl rfl rfl ?_; intro _ _ _) | refine sh_build tabOk rfl rfl rfl rfl rfl rfl ?_)
      refine sh_push tabOk (f := Value.string) (y := dmT (r.dm.getD i dm0)) (ys := (r.dm.take i).map dmT) (by assumption) rfl rfl rfl rfl rfl rfl rfl rfl (fun _ _ => (by repeat (first | exact Upd.here | apply Upd.there))) (by omega) ?_
      intro a7 c7 W7 H7
      rw [← map_take_succ dmT dm0 (by omega)] at H7
      repeat' (first | refine s_pure tabOk rfl rfl rfl rfl ?_ | refine Stp.imp ?_ | refine aops_nil ?_ | refine aw_reg ?_ | refine aw_seq ?_ | refine s_pass rfl rfl rfl ?_ | refine s_len tabOk rfl rfl rfl rfl ?_ | refine aw_true rfl ?_ | refine aw_false rfl ?_ | refine blk_exit_other rfl ?_ | refine s_arith tabOk rfl rfl rfl rfl (by simp only [InR]; omega) ?_ | ((first | ((fail_if_success refine s_told rfl rfl ?_); refine s_part rfl rfl rfl ?_ ?_) | refine aw_if rfl ?_ ?_) <;> intro hc <;> (first | replace hc := DecT.imp hc | simp only [decs] at hc | skip)) | refine s_index1n tabOk rfl rfl rfl rfl (by omega) ?_ | refine s_indexn tabOk rfl rfl rfl rfl (by omega) ?_ | refine s_index1 tabOk rfl rfl rfl rfl (by omega) (by omega) ?_ | refine sh_load tabOk (by assumption) rfl rfl rfl rfl (by repeat (first | exact List.Mem.head _ | apply List.Mem.tail)) (by rfl) (by rfl) ?_ | refine sh_loada tabOk (by assumption) rfl rfl rfl rfl (by repeat (first | exact List.Mem.head _ | apply List.Mem.tail)) (by rfl) ?_ | (refine sh_box (by assumption) rfl rfl rfl rfl rfl rfl ?_; intro _ _ _) | (refine sh_alloc tabOk (by assumption) rfl rfl rfl rfl rfl rfl ?_; intro _ _ _) | (refine sh_store tabOk (by assumption) rfl rfl rfl rfl rfl rfl (by repeat (first | exact Upd.here | apply Upd.there)) (by rfl) ?_; intro _ _) | (refine sh_lit tabOk (by assumption) rfl rfl rfl rfl rfl rfl rfl rfl rfl rfl rfl ?_; intro _ _ _) | refine sh_build tabOk rfl rfl rfl rfl rfl rfl ?_)
      exact rndh_next (i + 1, a7, c7) (by dsimp only; omega) (by dsimp only; omega) (by dsimp only; exact (by repeat (first | exact less_nil | refine less_cons rfl ?_))) (Hp.picks (by assumption) (by repeat (first | exact Picks.nil | (apply Picks.cons; (repeat (first | exact Pick.here | apply Pick.there))))))
    · have hil : i = r.dm.length := by omega
      subst hil
      rw [List.take_length] at H4
      have hws : SlV W4 1 (.slice ad r.dm.length cp) (r.dm.map dmT).length ((r.dm.map dmT).map .string) := by rw [List.length_map]; exact H4.row_sl (List.Mem.head _)
      refine aw_told followsMixed (DH B W [.blk b1 (rvC p1 k1 (some ⟨bd, od, none⟩) k2 p3 k3 r) 42]) [0, 1, 3, 5, 6, 2, 4, 7, 8, 9, 10, 11] (by kernel_rfl) (H4.picks (by repeat (first | exact Picks.nil | (apply Picks.cons; (repeat (first | exact Pick.here | apply Pick.there)))))) ?_
      repeat (first | refine so_pure tabOk lx rfl rfl rfl rfl (by kernel_rfl) ?_ | refine so_load' tabOk lx rfl rfl rfl rfl (by repeat (first | exact List.Mem.head _ | apply List.Mem.tail)) (by rfl) (by rfl) (by kernel_rfl) ?_ | refine so_loada' tabOk lx rfl rfl rfl rfl (by repeat (first | exact List.Mem.head _ | apply List.Mem.tail)) (by rfl) (by kernel_rfl) ?_ | refine so_len tabOk lx rfl rfl rfl rfl (by kernel_rfl) ?_ | refine so_build' tabOk lx rfl rfl rfl rfl rfl rfl (by kernel_rfl) ?_ | refine so_index1n tabOk lx rfl rfl rfl rfl (by omega) (by kernel_rfl) ?_ | refine so_indexn tabOk lx rfl rfl rfl rfl (by omega) (by kernel_rfl) ?_ | refine so_index1 tabOk lx rfl rfl rfl rfl (by omega) (by omega) (by kernel_rfl) ?_ | refine so_pass lx rfl rfl rfl (by kernel_rfl) ?_ | refine so_arith tabOk lx rfl rfl rfl rfl (by simp only [InR]; omega) (by kernel_rfl) ?_)
      refine so_single (by kernel_rfl) (th_call [4, 7, 8, 9, 10, 11] (by kernel_rfl) rfl rfl rfl rfl ent69 (c_listed (hT.hp H4) (H4.sliA hv.d) i1 (Hp.size H4)) ?_)
      rintro _ W5 ⟨rfl, q5⟩
      have H5 := Hp.call0 H4 q5
      refine ⟨H5.picks (by repeat (first | exact Picks.nil | (apply Picks.cons; (repeat (first | exact Pick.here | apply Pick.there))))), ?_⟩
      refine so_single (by kernel_rfl) (th_call [7, 8, 9, 10, 11] (by kernel_rfl) rfl rfl rfl rfl ent70 (c_Join (hws.below q5.below) (by rw [List.length_map]; omega) (m := 1408) (by omega) (dms_size i3) (Hp.size H5)) ?_)
      rintro _ W6 ⟨rfl, q6⟩
      have H6 := Hp.call0 H5 q6
      refine ⟨H6.picks (by repeat (first | exact Picks.nil | (apply Picks.cons; (repeat (first | exact Pick.here | apply Pick.there))))), ?_⟩
      refine so_single (by kernel_rfl) (th_call [8, 9, 10, 11] (by kernel_rfl) rfl rfl rfl rfl ent69 (c_listed (hT.hp H6) (H6.sliA hv.w) i2 (Hp.size H6)) ?_)
      rintro _ W7 ⟨rfl, q7⟩
      have H7 := Hp.call0 H6 q7
      refine ⟨H7.picks (by repeat (first | exact Picks.nil | (apply Picks.cons; (repeat (first | exact Pick.here | apply Pick.there))))), ?_⟩
      refine so_single (by kernel_rfl) (th_lit tabOk H7 [9, 10, 11] (by kernel_rfl) rfl rfl rfl rfl rfl rfl rfl rfl rfl rfl rfl (fun _ => (by repeat (first | exact List.nil_sublist _ | refine List.Sublist.cons_cons _ ?_ | refine List.Sublist.cons _ ?_))) ?_)
      intro b8 W8 H8
      have hsz1 := txtI_size i1
      have hsz2 := txtI_size i2
      have hcs := catS_size 47 (r.dm.map dmT) (dms_size i3)
      rw [List.length_map] at hcs
      refine so_single (by kernel_rfl) (th_call [10, 11] (by kernel_rfl) rfl rfl rfl rfl ent70 (c_Join (ws := [txtI r.ds, catS 47 (r.dm.map dmT), txtI r.ws]) (Hp.row_sl H8 (by repeat (first | exact List.Mem.head _ | apply List.Mem.tail))) (by exact Nat.le_of_ble_eq_true rfl) (m := 100000) (by omega) (by intro w hw; simp only [List.mem_cons, List.mem_nil_iff, or_false] at hw; rcases hw with rfl | rfl | rfl <;> omega) (Hp.size H8)) ?_)
      rintro _ W9 ⟨rfl, q9⟩
      have H9 := Hp.call0 H8 q9
      refine ⟨H9.picks (by repeat (first | exact Picks.nil | (apply Picks.cons; (repeat (first | exact Pick.here | apply Pick.there))))), ?_⟩
      refine so_pure tabOk lx rfl rfl rfl rfl (by kernel_rfl) ?_
      refine so_pure tabOk lx rfl rfl rfl rfl (by kernel_rfl) ?_
      refine so_done ?_
      repeat' (first | refine s_pure tabOk rfl rfl rfl rfl ?_ | refine Stp.imp ?_ | refine aops_nil ?_ | refine aw_reg ?_ | refine aw_seq ?_ | refine s_pass rfl rfl rfl ?_ | refine s_len tabOk rfl rfl rfl rfl ?_ | refine aw_true rfl ?_ | refine aw_false rfl ?_ | refine blk_exit_other rfl ?_ | refine s_arith tabOk rfl rfl rfl rfl (by simp only [InR]; omega) ?_ | ((first | ((fail_if_success refine s_told rfl rfl ?_); refine s_part rfl rfl rfl ?_ ?_) | refine aw_if rfl ?_ ?_) <;> intro hc <;> (first | replace hc := DecT.imp hc | simp only [decs] at hc | skip)) | refine s_index1n tabOk rfl rfl rfl rfl (by omega) ?_ | refine s_indexn tabOk rfl rfl rfl rfl (by omega) ?_ | refine s_index1 tabOk rfl rfl rfl rfl (by omega) (by omega) ?_ | refine sh_load tabOk (by assumption) rfl rfl rfl rfl (by repeat (first | exact List.Mem.head _ | apply List.Mem.tail)) (by rfl) (by rfl) ?_ | refine sh_loada tabOk (by assumption) rfl rfl rfl rfl (by repeat (first | exact List.Mem.head _ | apply List.Mem.tail)) (by rfl) ?_ | (refine sh_box (by assumption) rfl rfl rfl rfl rfl rfl ?_; intro _ _ _) | (refine sh_alloc tabOk (by assumption) rfl rfl rfl rfl rfl rfl ?_; intro _ _ _) | (refine sh_store tabOk (by assumption) rfl rfl rfl rfl rfl rfl (by repeat (first | exact Upd.here | apply Upd.there)) (by rfl) ?_; intro _ _) | (refine sh_lit tabOk (by assumption) rfl rfl rfl rfl rfl rfl rfl rfl rfl rfl rfl ?_; intro _ _ _) | refine sh_build tabOk rfl rfl rfl rfl rfl rfl ?_)
      refine retK_ret tabOk (congrArg Array.toList Tryd.results27) (by repeat (first | exact rv_nil | apply rv_tmp rfl rfl | apply rv_cellH (by assumption) rfl rfl rfl (by repeat (first | exact List.Mem.head _ | apply List.Mem.tail)) rfl)) ?_
      exact ⟨by unfold rtS rvT; rw [hok]; rfl, Hp.sub H9 (by repeat (first | exact List.nil_sublist _ | refine List.Sublist.cons_cons _ ?_ | refine List.Sublist.cons _ ?_))⟩
end
end Go.Proofs.YthdnepjajhjmlaaDoor
