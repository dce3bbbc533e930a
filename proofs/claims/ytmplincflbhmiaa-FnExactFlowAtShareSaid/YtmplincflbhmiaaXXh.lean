/- Rows put in order in place: blocks put in order and merged; gauges ranked. -/
import Derived.Test.YtmplincflbhmiaaXXg
namespace Go.Proofs.Ytmplincflbhmiaa
set_option linter.unusedSimpArgs false
set_option linter.unusedVariables false
open Go Cn Go.RowKit
section
variable {B : Nat} {A W W' : World} {L L' : List Res} {b n c : Nat} {g : FuncId} {p : Addr} {lt : Int → Int → Bool} {N : Int}
theorem putS_form (xs R : List Int) (lo hi : Nat) : putS xs R lo hi = xs.take lo ++ (R ++ xs.drop hi) := rfl
theorem mkI_pw (n : Int) : ∀ k, (mkI n k).Pairwise (· < ·)
  | 0 => by simp [mkI]
  | k + 1 => by
    rw [mkI_succ, List.pairwise_append]
    refine ⟨mkI_pw n k, List.pairwise_singleton _ _, fun x hx y hy => ?_⟩
    have := mkI_mem.1 hx
    rw [List.mem_singleton.1 hy]
    omega
set_option maxHeartbeats 4000000 in
theorem h_stable (hE : Ent Try.prog g) (hC : CmpOk B A b n c L g p lt (n : Int)) (hS0 : StOr (stL lt)) (hm : n ≤ 1048576) (H : Hp B A W (rowI b n c (mkI 0 n) :: L)) :
    ACalls Try.prog B 115 [.slice (some ⟨b, 0, none⟩) n c, .int .i64 n, .func (.func g) #[] #[.pointer (some p)]] W (fun _ W' => ∃ xs, xs.Perm (mkI 0 n) ∧ xs.Pairwise (stL lt) ∧ Hp B A W' (rowI b n c xs :: L)) := by
  refine acalls_of Try.func115 rfl Try.ntmps115 (Nat.le_of_ble_eq_true rfl) ?_
  repeat' (first | refine s_pure tabOk rfl rfl rfl rfl ?_ | refine Stp.imp ?_ | refine aops_nil ?_ | refine aw_reg ?_ | refine aw_seq ?_ | refine s_pass rfl rfl rfl ?_ | refine s_len tabOk rfl rfl rfl rfl ?_ | refine aw_true rfl ?_ | refine aw_false rfl ?_ | refine blk_exit_other rfl ?_ | refine s_arith tabOk rfl rfl rfl rfl (by simp only [InR]; omega) ?_ | ((first | ((fail_if_success refine s_told rfl rfl ?_); refine s_part rfl rfl rfl ?_ ?_) | refine aw_if rfl ?_ ?_) <;> intro hc <;> (first | replace hc := DecT.imp hc | simp only [decs] at hc | skip)) | refine s_index1n tabOk rfl rfl rfl rfl (by omega) ?_ | refine s_indexn tabOk rfl rfl rfl rfl (by omega) ?_ | refine s_index1 tabOk rfl rfl rfl rfl (by omega) (by omega) ?_ | refine sh_load tabOk (by assumption) rfl rfl rfl rfl (by repeat (first | exact List.Mem.head _ | apply List.Mem.tail)) (by rfl) (by rfl) ?_ | refine sh_loada tabOk (by assumption) rfl rfl rfl rfl (by repeat (first | exact List.Mem.head _ | apply List.Mem.tail)) (by rfl) ?_ | (refine sh_box (by assumption) rfl rfl rfl rfl rfl rfl ?_; intro _ _ _) | (refine sh_alloc tabOk (by assumption) rfl rfl rfl rfl rfl rfl ?_; intro _ _ _) | (refine sh_store tabOk (by assumption) rfl rfl rfl rfl rfl rfl (by repeat (first | exact Upd.here | apply Upd.there)) (by rfl) ?_; intro _ _) | (refine sh_lit tabOk (by assumption) rfl rfl rfl rfl rfl rfl rfl rfl rfl rfl rfl ?_; intro _ _ _) | refine sh_build tabOk rfl rfl rfl rfl rfl rfl ?_)
  refine aw_loopH (fun s : Nat × List Int => [(8, .int .i64 ((20 * s.1 + 20 : Nat) : Int)), (7, .int .i64 ((20 * s.1 : Nat) : Int)), (6, .int .i64 20), (2, .func (.func g) #[] #[.pointer (some p)]), (1, .int .i64 n), (0, .slice (some ⟨b, 0, none⟩) n c)])
    (fun s => rowI b n c s.2 :: L) (fun s => St1 lt n s.1 s.2) (fun s => n - 20 * s.1) (0, mkI 0 n) (St1.zero n) H (by dsimp only; exact (by repeat (first | exact less_nil | refine less_cons rfl ?_))) ?_
  rintro ⟨k, xs⟩ W1 hI H1
  dsimp only at hI H1 ⊢
  have hle := hI.le
  have hln := hI.len
  clear H
  by_cases hk : 20 * k + 20 ≤ n
  · have hsg := hI.seg (hi := 20 * k + 20) (by omega) hk
    have hself := seg_self (xs := xs) (lo := 20 * k) (hi := 20 * k + 20) (by omega)
    rw [hsg, show 20 * k + 20 - 20 * k = 20 by omega] at hself
    have hml := mkI_len ((20 * k : Nat) : Int) 20
    have ht1 : (xs.take (20 * k)).length = 20 * k := by rw [List.length_take]; omega
    have ht2 : (xs.drop (20 * k + 20)).length = n - (20 * k + 20) := by rw [List.length_drop]; omega
    repeat' (first | refine s_pure tabOk rfl rfl rfl rfl ?_ | refine Stp.imp ?_ | refine aops_nil ?_ | refine aw_reg ?_ | refine aw_seq ?_ | refine s_pass rfl rfl rfl ?_ | refine s_len tabOk rfl rfl rfl rfl ?_ | refine aw_true rfl ?_ | refine aw_false rfl ?_ | refine blk_exit_other rfl ?_ | refine s_arith tabOk rfl rfl rfl rfl (by simp only [InR]; omega) ?_ | ((first | ((fail_if_success refine s_told rfl rfl ?_); refine s_part rfl rfl rfl ?_ ?_) | refine aw_if rfl ?_ ?_) <;> intro hc <;> (first | replace hc := DecT.imp hc | simp only [decs] at hc | skip)) | refine s_index1n tabOk rfl rfl rfl rfl (by omega) ?_ | refine s_indexn tabOk rfl rfl rfl rfl (by omega) ?_ | refine s_index1 tabOk rfl rfl rfl rfl (by omega) (by omega) ?_ | refine sh_load tabOk (by assumption) rfl rfl rfl rfl (by repeat (first | exact List.Mem.head _ | apply List.Mem.tail)) (by rfl) (by rfl) ?_ | refine sh_loada tabOk (by assumption) rfl rfl rfl rfl (by repeat (first | exact List.Mem.head _ | apply List.Mem.tail)) (by rfl) ?_ | (refine sh_box (by assumption) rfl rfl rfl rfl rfl rfl ?_; intro _ _ _) | (refine sh_alloc tabOk (by assumption) rfl rfl rfl rfl rfl rfl ?_; intro _ _ _) | (refine sh_store tabOk (by assumption) rfl rfl rfl rfl rfl rfl (by repeat (first | exact Upd.here | apply Upd.there)) (by rfl) ?_; intro _ _) | (refine sh_lit tabOk (by assumption) rfl rfl rfl rfl rfl rfl rfl rfl rfl rfl rfl ?_; intro _ _ _) | refine sh_build tabOk rfl rfl rfl rfl rfl rfl ?_)
    all_goals try (exfalso; omega)
    refine s_call rfl rfl rfl rfl ent129 (h_insort hE hC hS0 (P := xs.take (20 * k)) (S := mkI ((20 * k : Nat) : Int) 20) (Q := xs.drop (20 * k + 20)) (by rw [hself]; exact H1) (by omega) hm (mkI_pw _ _) (fun x hx => by have := mkI_mem.1 hx; omega) (by omega) (by omega)) ?_
    rintro _ W2 ⟨R, hp, hw, H2⟩
    repeat' (first | refine s_pure tabOk rfl rfl rfl rfl ?_ | refine Stp.imp ?_ | refine aops_nil ?_ | refine aw_reg ?_ | refine aw_seq ?_ | refine s_pass rfl rfl rfl ?_ | refine s_len tabOk rfl rfl rfl rfl ?_ | refine aw_true rfl ?_ | refine aw_false rfl ?_ | refine blk_exit_other rfl ?_ | refine s_arith tabOk rfl rfl rfl rfl (by simp only [InR]; omega) ?_ | ((first | ((fail_if_success refine s_told rfl rfl ?_); refine s_part rfl rfl rfl ?_ ?_) | refine aw_if rfl ?_ ?_) <;> intro hc <;> (first | replace hc := DecT.imp hc | simp only [decs] at hc | skip)) | refine s_index1n tabOk rfl rfl rfl rfl (by omega) ?_ | refine s_indexn tabOk rfl rfl rfl rfl (by omega) ?_ | refine s_index1 tabOk rfl rfl rfl rfl (by omega) (by omega) ?_ | refine sh_load tabOk (by assumption) rfl rfl rfl rfl (by repeat (first | exact List.Mem.head _ | apply List.Mem.tail)) (by rfl) (by rfl) ?_ | refine sh_loada tabOk (by assumption) rfl rfl rfl rfl (by repeat (first | exact List.Mem.head _ | apply List.Mem.tail)) (by rfl) ?_ | (refine sh_box (by assumption) rfl rfl rfl rfl rfl rfl ?_; intro _ _ _) | (refine sh_alloc tabOk (by assumption) rfl rfl rfl rfl rfl rfl ?_; intro _ _ _) | (refine sh_store tabOk (by assumption) rfl rfl rfl rfl rfl rfl (by repeat (first | exact Upd.here | apply Upd.there)) (by rfl) ?_; intro _ _) | (refine sh_lit tabOk (by assumption) rfl rfl rfl rfl rfl rfl rfl rfl rfl rfl rfl ?_; intro _ _ _) | refine sh_build tabOk rfl rfl rfl rfl rfl rfl ?_)
    refine rndh_next (k + 1, putS xs R (20 * k) (20 * k + 20)) (hI.step hk hp hw) (by dsimp only; omega) (by dsimp only; rw [show 20 * (k + 1) + 20 = 20 * k + 20 + 20 by omega, show 20 * (k + 1) = 20 * k + 20 by omega]; exact (by repeat (first | exact less_nil | refine less_cons rfl ?_))) (by dsimp only; rw [putS_form]; exact H2)
  have hsg := hI.seg (hi := n) hle (Nat.le_refl _)
  have hself := seg_self (xs := xs) (lo := 20 * k) (hi := n) hle
  rw [hsg] at hself
  have hml := mkI_len ((20 * k : Nat) : Int) (n - 20 * k)
  have ht1 : (xs.take (20 * k)).length = 20 * k := by rw [List.length_take]; omega
  have ht2 : (xs.drop n).length = 0 := by rw [List.length_drop]; omega
  repeat' (first | refine s_pure tabOk rfl rfl rfl rfl ?_ | refine Stp.imp ?_ | refine aops_nil ?_ | refine aw_reg ?_ | refine aw_seq ?_ | refine s_pass rfl rfl rfl ?_ | refine s_len tabOk rfl rfl rfl rfl ?_ | refine aw_true rfl ?_ | refine aw_false rfl ?_ | refine blk_exit_other rfl ?_ | refine s_arith tabOk rfl rfl rfl rfl (by simp only [InR]; omega) ?_ | ((first | ((fail_if_success refine s_told rfl rfl ?_); refine s_part rfl rfl rfl ?_ ?_) | refine aw_if rfl ?_ ?_) <;> intro hc <;> (first | replace hc := DecT.imp hc | simp only [decs] at hc | skip)) | refine s_index1n tabOk rfl rfl rfl rfl (by omega) ?_ | refine s_indexn tabOk rfl rfl rfl rfl (by omega) ?_ | refine s_index1 tabOk rfl rfl rfl rfl (by omega) (by omega) ?_ | refine sh_load tabOk (by assumption) rfl rfl rfl rfl (by repeat (first | exact List.Mem.head _ | apply List.Mem.tail)) (by rfl) (by rfl) ?_ | refine sh_loada tabOk (by assumption) rfl rfl rfl rfl (by repeat (first | exact List.Mem.head _ | apply List.Mem.tail)) (by rfl) ?_ | (refine sh_box (by assumption) rfl rfl rfl rfl rfl rfl ?_; intro _ _ _) | (refine sh_alloc tabOk (by assumption) rfl rfl rfl rfl rfl rfl ?_; intro _ _ _) | (refine sh_store tabOk (by assumption) rfl rfl rfl rfl rfl rfl (by repeat (first | exact Upd.here | apply Upd.there)) (by rfl) ?_; intro _ _) | (refine sh_lit tabOk (by assumption) rfl rfl rfl rfl rfl rfl rfl rfl rfl rfl rfl ?_; intro _ _ _) | refine sh_build tabOk rfl rfl rfl rfl rfl rfl ?_)
  all_goals try (exfalso; omega)
  refine s_call rfl rfl rfl rfl ent129 (h_insort hE hC hS0 (P := xs.take (20 * k)) (S := mkI ((20 * k : Nat) : Int) (n - 20 * k)) (Q := xs.drop n) (by rw [hself]; exact H1) (by omega) hm (mkI_pw _ _) (fun x hx => by have := mkI_mem.1 hx; omega) (by omega) (by omega)) ?_
  rintro _ W2 ⟨R, hp, hw, H2⟩
  have hB := hI.last (by omega) hp hw
  rw [← putS_form] at H2
  generalize putS xs R (20 * k) n = ys at *
  clear hI H1 hself hsg ht1 ht2 hml hp hw
  repeat' (first | refine s_pure tabOk rfl rfl rfl rfl ?_ | refine Stp.imp ?_ | refine aops_nil ?_ | refine aw_reg ?_ | refine aw_seq ?_ | refine s_pass rfl rfl rfl ?_ | refine s_len tabOk rfl rfl rfl rfl ?_ | refine aw_true rfl ?_ | refine aw_false rfl ?_ | refine blk_exit_other rfl ?_ | refine s_arith tabOk rfl rfl rfl rfl (by simp only [InR]; omega) ?_ | ((first | ((fail_if_success refine s_told rfl rfl ?_); refine s_part rfl rfl rfl ?_ ?_) | refine aw_if rfl ?_ ?_) <;> intro hc <;> (first | replace hc := DecT.imp hc | simp only [decs] at hc | skip)) | refine s_index1n tabOk rfl rfl rfl rfl (by omega) ?_ | refine s_indexn tabOk rfl rfl rfl rfl (by omega) ?_ | refine s_index1 tabOk rfl rfl rfl rfl (by omega) (by omega) ?_ | refine sh_load tabOk (by assumption) rfl rfl rfl rfl (by repeat (first | exact List.Mem.head _ | apply List.Mem.tail)) (by rfl) (by rfl) ?_ | refine sh_loada tabOk (by assumption) rfl rfl rfl rfl (by repeat (first | exact List.Mem.head _ | apply List.Mem.tail)) (by rfl) ?_ | (refine sh_box (by assumption) rfl rfl rfl rfl rfl rfl ?_; intro _ _ _) | (refine sh_alloc tabOk (by assumption) rfl rfl rfl rfl rfl rfl ?_; intro _ _ _) | (refine sh_store tabOk (by assumption) rfl rfl rfl rfl rfl rfl (by repeat (first | exact Upd.here | apply Upd.there)) (by rfl) ?_; intro _ _) | (refine sh_lit tabOk (by assumption) rfl rfl rfl rfl rfl rfl rfl rfl rfl rfl rfl ?_; intro _ _ _) | refine sh_build tabOk rfl rfl rfl rfl rfl rfl ?_)
  refine aw_loopH (fun s : Nat × List Int => [(6, .int .i64 (s.1 : Int)), (2, .func (.func g) #[] #[.pointer (some p)]), (1, .int .i64 n), (0, .slice (some ⟨b, 0, none⟩) n c)])
    (fun s => rowI b n c s.2 :: L) (fun s => Bk lt n s.1 s.2 ∧ 20 ≤ s.1 ∧ s.1 ≤ 2097152) (fun s => n - s.1) (20, ys) ⟨hB, Nat.le_refl _, by dsimp only; omega⟩ H2 (by dsimp only; exact (by repeat (first | exact less_nil | refine less_cons rfl ?_))) ?_
  rintro ⟨w, zs⟩ W3 ⟨hb, hw1, hw2⟩ H3
  dsimp only at hb hw1 hw2 H3 ⊢
  clear H2 hB
  by_cases hwn : w < n
  rotate_left
  · repeat' (first | refine s_pure tabOk rfl rfl rfl rfl ?_ | refine Stp.imp ?_ | refine aops_nil ?_ | refine aw_reg ?_ | refine aw_seq ?_ | refine s_pass rfl rfl rfl ?_ | refine s_len tabOk rfl rfl rfl rfl ?_ | refine aw_true rfl ?_ | refine aw_false rfl ?_ | refine blk_exit_other rfl ?_ | refine s_arith tabOk rfl rfl rfl rfl (by simp only [InR]; omega) ?_ | ((first | ((fail_if_success refine s_told rfl rfl ?_); refine s_part rfl rfl rfl ?_ ?_) | refine aw_if rfl ?_ ?_) <;> intro hc <;> (first | replace hc := DecT.imp hc | simp only [decs] at hc | skip)) | refine s_index1n tabOk rfl rfl rfl rfl (by omega) ?_ | refine s_indexn tabOk rfl rfl rfl rfl (by omega) ?_ | refine s_index1 tabOk rfl rfl rfl rfl (by omega) (by omega) ?_ | refine sh_load tabOk (by assumption) rfl rfl rfl rfl (by repeat (first | exact List.Mem.head _ | apply List.Mem.tail)) (by rfl) (by rfl) ?_ | refine sh_loada tabOk (by assumption) rfl rfl rfl rfl (by repeat (first | exact List.Mem.head _ | apply List.Mem.tail)) (by rfl) ?_ | (refine sh_box (by assumption) rfl rfl rfl rfl rfl rfl ?_; intro _ _ _) | (refine sh_alloc tabOk (by assumption) rfl rfl rfl rfl rfl rfl ?_; intro _ _ _) | (refine sh_store tabOk (by assumption) rfl rfl rfl rfl rfl rfl (by repeat (first | exact Upd.here | apply Upd.there)) (by rfl) ?_; intro _ _) | (refine sh_lit tabOk (by assumption) rfl rfl rfl rfl rfl rfl rfl rfl rfl rfl rfl ?_; intro _ _ _) | refine sh_build tabOk rfl rfl rfl rfl rfl rfl ?_)
    all_goals try (exfalso; omega)
    obtain ⟨f1, f2⟩ := hb.all (by omega)
    exact retK_normal tabOk (congrArg Array.toList Try.results115) rv_nil ⟨zs, f1, f2, H3⟩
  repeat' (first | refine s_pure tabOk rfl rfl rfl rfl ?_ | refine Stp.imp ?_ | refine aops_nil ?_ | refine aw_reg ?_ | refine aw_seq ?_ | refine s_pass rfl rfl rfl ?_ | refine s_len tabOk rfl rfl rfl rfl ?_ | refine aw_true rfl ?_ | refine aw_false rfl ?_ | refine blk_exit_other rfl ?_ | refine s_arith tabOk rfl rfl rfl rfl (by simp only [InR]; omega) ?_ | ((first | ((fail_if_success refine s_told rfl rfl ?_); refine s_part rfl rfl rfl ?_ ?_) | refine aw_if rfl ?_ ?_) <;> intro hc <;> (first | replace hc := DecT.imp hc | simp only [decs] at hc | skip)) | refine s_index1n tabOk rfl rfl rfl rfl (by omega) ?_ | refine s_indexn tabOk rfl rfl rfl rfl (by omega) ?_ | refine s_index1 tabOk rfl rfl rfl rfl (by omega) (by omega) ?_ | refine sh_load tabOk (by assumption) rfl rfl rfl rfl (by repeat (first | exact List.Mem.head _ | apply List.Mem.tail)) (by rfl) (by rfl) ?_ | refine sh_loada tabOk (by assumption) rfl rfl rfl rfl (by repeat (first | exact List.Mem.head _ | apply List.Mem.tail)) (by rfl) ?_ | (refine sh_box (by assumption) rfl rfl rfl rfl rfl rfl ?_; intro _ _ _) | (refine sh_alloc tabOk (by assumption) rfl rfl rfl rfl rfl rfl ?_; intro _ _ _) | (refine sh_store tabOk (by assumption) rfl rfl rfl rfl rfl rfl (by repeat (first | exact Upd.here | apply Upd.there)) (by rfl) ?_; intro _ _) | (refine sh_lit tabOk (by assumption) rfl rfl rfl rfl rfl rfl rfl rfl rfl rfl rfl ?_; intro _ _ _) | refine sh_build tabOk rfl rfl rfl rfl rfl rfl ?_)
  all_goals try (exfalso; omega)
  refine aw_loopH (fun s : Nat × List Int => [(8, .int .i64 ((s.1 * (2 * w) + 2 * w : Nat) : Int)), (7, .int .i64 ((s.1 * (2 * w) : Nat) : Int)), (6, .int .i64 (w : Int)), (2, .func (.func g) #[] #[.pointer (some p)]), (1, .int .i64 n), (0, .slice (some ⟨b, 0, none⟩) n c)])
    (fun s => rowI b n c s.2 :: L) (fun s => In lt n w s.1 s.2) (fun s => n - s.1 * (2 * w)) (0, zs) (In.zero hb) H3 (by dsimp only; rw [Nat.zero_mul, Nat.zero_add, show ((2 * w : Nat) : Int) = 2 * (w : Int) by omega]; exact (by repeat (first | exact less_nil | refine less_cons rfl ?_))) ?_
  rintro ⟨k, xs⟩ W4 hI H4
  dsimp only at hI H4 ⊢
  clear H3 hb
  have hle := hI.le
  have hln := hI.len
  obtain ⟨a, ha⟩ : ∃ a, a = k * (2 * w) := ⟨_, rfl⟩
  have hI2 := hI
  by_cases hk : a + 2 * w ≤ n
  · have s1 := hI.one (by omega) (by omega)
    have s2 := hI.two (k := k) (by omega)
    have hst := fun {R : List Int} => hI.step (R := R) (by omega) (by omega)
    have hnx : (k + 1) * (2 * w) = a + 2 * w := by rw [Nat.add_mul, Nat.one_mul, ha]
    rw [← ha] at s1 s2 hst
    rw [show min (a + 2 * w) n = a + 2 * w by omega] at s2
    have hr1 := fun x hx => mkI_mem.1 (s1.perm.subset (a := x) hx)
    have hr2 := fun x hx => mkI_mem.1 (s2.perm.subset (a := x) hx)
    have hM := s1.mgb s2 (by omega) (by omega)
    have hfo := seg_four (xs := xs) (lo := a) (mid := a + w) (hi := a + 2 * w) (by omega) (by omega)
    have l1 : (seg xs a (a + w)).length = w := by rw [seg_len (by omega)]; omega
    have l2 : (seg xs (a + w) (a + 2 * w)).length = w := by rw [seg_len (by omega)]; omega
    have ht1 : (xs.take a).length = a := by rw [List.length_take]; omega
    have ht2 : (xs.drop (a + 2 * w)).length = n - (a + 2 * w) := by rw [List.length_drop]; omega
    have H4' : Hp B A W4 (rowI b n c (xs.take a ++ (seg xs a (a + w) ++ (seg xs (a + w) (a + 2 * w) ++ xs.drop (a + 2 * w)))) :: L) := by
      rw [show xs.take a ++ (seg xs a (a + w) ++ (seg xs (a + w) (a + 2 * w) ++ xs.drop (a + 2 * w))) = xs from hfo]; exact H4
    rw [← ha]
    repeat' (first | refine s_pure tabOk rfl rfl rfl rfl ?_ | refine Stp.imp ?_ | refine aops_nil ?_ | refine aw_reg ?_ | refine aw_seq ?_ | refine s_pass rfl rfl rfl ?_ | refine s_len tabOk rfl rfl rfl rfl ?_ | refine aw_true rfl ?_ | refine aw_false rfl ?_ | refine blk_exit_other rfl ?_ | refine s_arith tabOk rfl rfl rfl rfl (by simp only [InR]; omega) ?_ | ((first | ((fail_if_success refine s_told rfl rfl ?_); refine s_part rfl rfl rfl ?_ ?_) | refine aw_if rfl ?_ ?_) <;> intro hc <;> (first | replace hc := DecT.imp hc | simp only [decs] at hc | skip)) | refine s_index1n tabOk rfl rfl rfl rfl (by omega) ?_ | refine s_indexn tabOk rfl rfl rfl rfl (by omega) ?_ | refine s_index1 tabOk rfl rfl rfl rfl (by omega) (by omega) ?_ | refine sh_load tabOk (by assumption) rfl rfl rfl rfl (by repeat (first | exact List.Mem.head _ | apply List.Mem.tail)) (by rfl) (by rfl) ?_ | refine sh_loada tabOk (by assumption) rfl rfl rfl rfl (by repeat (first | exact List.Mem.head _ | apply List.Mem.tail)) (by rfl) ?_ | (refine sh_box (by assumption) rfl rfl rfl rfl rfl rfl ?_; intro _ _ _) | (refine sh_alloc tabOk (by assumption) rfl rfl rfl rfl rfl rfl ?_; intro _ _ _) | (refine sh_store tabOk (by assumption) rfl rfl rfl rfl rfl rfl (by repeat (first | exact Upd.here | apply Upd.there)) (by rfl) ?_; intro _ _) | (refine sh_lit tabOk (by assumption) rfl rfl rfl rfl rfl rfl rfl rfl rfl rfl rfl ?_; intro _ _ _) | refine sh_build tabOk rfl rfl rfl rfl rfl rfl ?_)
    all_goals try (exfalso; omega)
    refine s_call rfl rfl rfl rfl ent130 (h_symMerge hE hC hS0 hm _ (P := xs.take a) (U := seg xs a (a + w)) (V := seg xs (a + w) (a + 2 * w)) (Q := xs.drop (a + 2 * w)) (Nat.le_refl _) (by omega) (by omega) H4' (by omega) hM (fun x hx => (List.mem_append.1 hx).elim (fun h => by have := hr1 x h; omega) (fun h => by have := hr2 x h; omega)) (by omega) (by omega) (by omega)) ?_
    rintro _ W5 ⟨R, hp, hw, H5⟩
    have hI3 := hst hp hw
    rw [← putS_form] at H5
    repeat' (first | refine s_pure tabOk rfl rfl rfl rfl ?_ | refine Stp.imp ?_ | refine aops_nil ?_ | refine aw_reg ?_ | refine aw_seq ?_ | refine s_pass rfl rfl rfl ?_ | refine s_len tabOk rfl rfl rfl rfl ?_ | refine aw_true rfl ?_ | refine aw_false rfl ?_ | refine blk_exit_other rfl ?_ | refine s_arith tabOk rfl rfl rfl rfl (by simp only [InR]; omega) ?_ | ((first | ((fail_if_success refine s_told rfl rfl ?_); refine s_part rfl rfl rfl ?_ ?_) | refine aw_if rfl ?_ ?_) <;> intro hc <;> (first | replace hc := DecT.imp hc | simp only [decs] at hc | skip)) | refine s_index1n tabOk rfl rfl rfl rfl (by omega) ?_ | refine s_indexn tabOk rfl rfl rfl rfl (by omega) ?_ | refine s_index1 tabOk rfl rfl rfl rfl (by omega) (by omega) ?_ | refine sh_load tabOk (by assumption) rfl rfl rfl rfl (by repeat (first | exact List.Mem.head _ | apply List.Mem.tail)) (by rfl) (by rfl) ?_ | refine sh_loada tabOk (by assumption) rfl rfl rfl rfl (by repeat (first | exact List.Mem.head _ | apply List.Mem.tail)) (by rfl) ?_ | (refine sh_box (by assumption) rfl rfl rfl rfl rfl rfl ?_; intro _ _ _) | (refine sh_alloc tabOk (by assumption) rfl rfl rfl rfl rfl rfl ?_; intro _ _ _) | (refine sh_store tabOk (by assumption) rfl rfl rfl rfl rfl rfl (by repeat (first | exact Upd.here | apply Upd.there)) (by rfl) ?_; intro _ _) | (refine sh_lit tabOk (by assumption) rfl rfl rfl rfl rfl rfl rfl rfl rfl rfl rfl ?_; intro _ _ _) | refine sh_build tabOk rfl rfl rfl rfl rfl rfl ?_)
    refine rndh_next (k + 1, putS xs R a (a + 2 * w)) hI3 (by dsimp only; omega) (by dsimp only; rw [hnx, show ((a + 2 * w + 2 * w : Nat) : Int) = ((a + 2 * w : Nat) : Int) + 2 * (w : Int) by omega]; exact (by repeat (first | exact less_nil | refine less_cons rfl ?_))) H5
  by_cases hk2 : a + w < n
  · have s1 := hI.one (by omega) (by omega)
    have s2 := hI.two (k := k) (by omega)
    have hst := fun {R : List Int} => hI.last (R := R) (by omega) (by omega) (by omega)
    rw [← ha] at s1 s2 hst
    rw [show min (a + 2 * w) n = n by omega] at s2
    have hr1 := fun x hx => mkI_mem.1 (s1.perm.subset (a := x) hx)
    have hr2 := fun x hx => mkI_mem.1 (s2.perm.subset (a := x) hx)
    have hM := s1.mgb s2 (by omega) (by omega)
    have hfo := seg_four (xs := xs) (lo := a) (mid := a + w) (hi := n) (by omega) (by omega)
    have l1 : (seg xs a (a + w)).length = w := by rw [seg_len (by omega)]; omega
    have l2 : (seg xs (a + w) n).length = n - (a + w) := by rw [seg_len (by omega)]
    have ht1 : (xs.take a).length = a := by rw [List.length_take]; omega
    have ht2 : (xs.drop n).length = 0 := by rw [List.length_drop]; omega
    have H4' : Hp B A W4 (rowI b n c (xs.take a ++ (seg xs a (a + w) ++ (seg xs (a + w) n ++ xs.drop n))) :: L) := by
      rw [show xs.take a ++ (seg xs a (a + w) ++ (seg xs (a + w) n ++ xs.drop n)) = xs from hfo]; exact H4
    rw [← ha]
    repeat' (first | refine s_pure tabOk rfl rfl rfl rfl ?_ | refine Stp.imp ?_ | refine aops_nil ?_ | refine aw_reg ?_ | refine aw_seq ?_ | refine s_pass rfl rfl rfl ?_ | refine s_len tabOk rfl rfl rfl rfl ?_ | refine aw_true rfl ?_ | refine aw_false rfl ?_ | refine blk_exit_other rfl ?_ | refine s_arith tabOk rfl rfl rfl rfl (by simp only [InR]; omega) ?_ | ((first | ((fail_if_success refine s_told rfl rfl ?_); refine s_part rfl rfl rfl ?_ ?_) | refine aw_if rfl ?_ ?_) <;> intro hc <;> (first | replace hc := DecT.imp hc | simp only [decs] at hc | skip)) | refine s_index1n tabOk rfl rfl rfl rfl (by omega) ?_ | refine s_indexn tabOk rfl rfl rfl rfl (by omega) ?_ | refine s_index1 tabOk rfl rfl rfl rfl (by omega) (by omega) ?_ | refine sh_load tabOk (by assumption) rfl rfl rfl rfl (by repeat (first | exact List.Mem.head _ | apply List.Mem.tail)) (by rfl) (by rfl) ?_ | refine sh_loada tabOk (by assumption) rfl rfl rfl rfl (by repeat (first | exact List.Mem.head _ | apply List.Mem.tail)) (by rfl) ?_ | (refine sh_box (by assumption) rfl rfl rfl rfl rfl rfl ?_; intro _ _ _) | (refine sh_alloc tabOk (by assumption) rfl rfl rfl rfl rfl rfl ?_; intro _ _ _) | (refine sh_store tabOk (by assumption) rfl rfl rfl rfl rfl rfl (by repeat (first | exact Upd.here | apply Upd.there)) (by rfl) ?_; intro _ _) | (refine sh_lit tabOk (by assumption) rfl rfl rfl rfl rfl rfl rfl rfl rfl rfl rfl ?_; intro _ _ _) | refine sh_build tabOk rfl rfl rfl rfl rfl rfl ?_)
    all_goals try (exfalso; omega)
    refine s_call rfl rfl rfl rfl ent130 (h_symMerge hE hC hS0 hm _ (P := xs.take a) (U := seg xs a (a + w)) (V := seg xs (a + w) n) (Q := xs.drop n) (Nat.le_refl _) (by omega) (by omega) H4' (by omega) hM (fun x hx => (List.mem_append.1 hx).elim (fun h => by have := hr1 x h; omega) (fun h => by have := hr2 x h; omega)) (by omega) (by omega) (by omega)) ?_
    rintro _ W5 ⟨R, hp, hw, H5⟩
    have hI3 := hst hp hw
    rw [← putS_form] at H5
    repeat' (first | refine s_pure tabOk rfl rfl rfl rfl ?_ | refine Stp.imp ?_ | refine aops_nil ?_ | refine aw_reg ?_ | refine aw_seq ?_ | refine s_pass rfl rfl rfl ?_ | refine s_len tabOk rfl rfl rfl rfl ?_ | refine aw_true rfl ?_ | refine aw_false rfl ?_ | refine blk_exit_other rfl ?_ | refine s_arith tabOk rfl rfl rfl rfl (by simp only [InR]; omega) ?_ | ((first | ((fail_if_success refine s_told rfl rfl ?_); refine s_part rfl rfl rfl ?_ ?_) | refine aw_if rfl ?_ ?_) <;> intro hc <;> (first | replace hc := DecT.imp hc | simp only [decs] at hc | skip)) | refine s_index1n tabOk rfl rfl rfl rfl (by omega) ?_ | refine s_indexn tabOk rfl rfl rfl rfl (by omega) ?_ | refine s_index1 tabOk rfl rfl rfl rfl (by omega) (by omega) ?_ | refine sh_load tabOk (by assumption) rfl rfl rfl rfl (by repeat (first | exact List.Mem.head _ | apply List.Mem.tail)) (by rfl) (by rfl) ?_ | refine sh_loada tabOk (by assumption) rfl rfl rfl rfl (by repeat (first | exact List.Mem.head _ | apply List.Mem.tail)) (by rfl) ?_ | (refine sh_box (by assumption) rfl rfl rfl rfl rfl rfl ?_; intro _ _ _) | (refine sh_alloc tabOk (by assumption) rfl rfl rfl rfl rfl rfl ?_; intro _ _ _) | (refine sh_store tabOk (by assumption) rfl rfl rfl rfl rfl rfl (by repeat (first | exact Upd.here | apply Upd.there)) (by rfl) ?_; intro _ _) | (refine sh_lit tabOk (by assumption) rfl rfl rfl rfl rfl rfl rfl rfl rfl rfl rfl ?_; intro _ _ _) | refine sh_build tabOk rfl rfl rfl rfl rfl rfl ?_)
    refine rndh_next (2 * w, putS xs R a n) ⟨hI3, by dsimp only; omega, by dsimp only; omega⟩ (by dsimp only; omega) (by dsimp only; rw [show ((2 * w : Nat) : Int) = (w : Int) * 2 by omega]; exact (by repeat (first | exact less_nil | refine less_cons rfl ?_))) H5
  · have hI3 := hI.none (by omega) (by omega)
    rw [← ha]
    repeat' (first | refine s_pure tabOk rfl rfl rfl rfl ?_ | refine Stp.imp ?_ | refine aops_nil ?_ | refine aw_reg ?_ | refine aw_seq ?_ | refine s_pass rfl rfl rfl ?_ | refine s_len tabOk rfl rfl rfl rfl ?_ | refine aw_true rfl ?_ | refine aw_false rfl ?_ | refine blk_exit_other rfl ?_ | refine s_arith tabOk rfl rfl rfl rfl (by simp only [InR]; omega) ?_ | ((first | ((fail_if_success refine s_told rfl rfl ?_); refine s_part rfl rfl rfl ?_ ?_) | refine aw_if rfl ?_ ?_) <;> intro hc <;> (first | replace hc := DecT.imp hc | simp only [decs] at hc | skip)) | refine s_index1n tabOk rfl rfl rfl rfl (by omega) ?_ | refine s_indexn tabOk rfl rfl rfl rfl (by omega) ?_ | refine s_index1 tabOk rfl rfl rfl rfl (by omega) (by omega) ?_ | refine sh_load tabOk (by assumption) rfl rfl rfl rfl (by repeat (first | exact List.Mem.head _ | apply List.Mem.tail)) (by rfl) (by rfl) ?_ | refine sh_loada tabOk (by assumption) rfl rfl rfl rfl (by repeat (first | exact List.Mem.head _ | apply List.Mem.tail)) (by rfl) ?_ | (refine sh_box (by assumption) rfl rfl rfl rfl rfl rfl ?_; intro _ _ _) | (refine sh_alloc tabOk (by assumption) rfl rfl rfl rfl rfl rfl ?_; intro _ _ _) | (refine sh_store tabOk (by assumption) rfl rfl rfl rfl rfl rfl (by repeat (first | exact Upd.here | apply Upd.there)) (by rfl) ?_; intro _ _) | (refine sh_lit tabOk (by assumption) rfl rfl rfl rfl rfl rfl rfl rfl rfl rfl rfl ?_; intro _ _ _) | refine sh_build tabOk rfl rfl rfl rfl rfl rfl ?_)
    all_goals try (exfalso; omega)
    refine rndh_next (2 * w, xs) ⟨hI3, by dsimp only; omega, by dsimp only; omega⟩ (by dsimp only; omega) (by dsimp only; rw [show ((2 * w : Nat) : Int) = (w : Int) * 2 by omega]; exact (by repeat (first | exact less_nil | refine less_cons rfl ?_))) H4
end
end Go.Proofs.Ytmplincflbhmiaa
