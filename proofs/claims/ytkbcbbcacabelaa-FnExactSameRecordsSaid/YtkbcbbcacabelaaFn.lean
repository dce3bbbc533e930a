/- Records cut: both ways. -/
import Derived.Test.YtkbcbbcacabelaaFm
import Derived.Test.YtkbcbbcacabelaaCn15
namespace Go.Proofs.Ytkbcbbcacabelaa
set_option linter.unusedSimpArgs false
set_option linter.unusedVariables false
open Go Cn Go.RowKit
@[irreducible] def cutOk (s : ByteArray) (st sp : Int) (n : Nat) (l h : Int) : Bool := recOk s st sp n && (decide (1 ≤ h) && decide (h ≤ n)) && (decide (0 ≤ l) && decide (l ≤ h - 1)) && recOk s (st + l * sp) sp (h - l).toNat
@[irreducible] def cutRec (s : ByteArray) (st sp : Int) (xs : List Nat) (l h : Int) : ByteArray × Int × Int × List Nat :=
  if cutOk s st sp xs.length l h then (s, st + l * sp, sp, (xs.drop l.toNat).take (h.toNat - l.toNat)) else (⟨#[]⟩, 0, 0, [])
theorem cutRec_bad {s : ByteArray} {st sp : Int} {xs : List Nat} {l h : Int} (hk : cutOk s st sp xs.length l h = false) : cutRec s st sp xs l h = (⟨#[]⟩, 0, 0, []) := by
  unfold cutRec; rw [hk]; rfl
theorem cutRec_good {s : ByteArray} {st sp : Int} {xs : List Nat} {l h : Int} (hk : cutOk s st sp xs.length l h = true) : cutRec s st sp xs l h = (s, st + l * sp, sp, (xs.drop l.toNat).take (h.toNat - l.toNat)) := by
  unfold cutRec; rw [hk]; rfl
/-- what both hand back -/
def CutR (W : World) (base : Nat) (r : Value) (s : ByteArray) (st sp : Int) (xs : List Nat) (l h : Int) : Prop :=
  ∃ q, r = .tuple #[q, .bool (cutOk s st sp xs.length l h)] ∧ RecO W base q (cutRec s st sp xs l h).1 (cutRec s st sp xs l h).2.1 (cutRec s st sp xs l h).2.2.1 (cutRec s st sp xs l h).2.2.2
theorem CutR.bad {W : World} {base : Nat} {s : ByteArray} {st sp : Int} {xs : List Nat} {l h : Int} (hk : cutOk s st sp xs.length l h = false) : CutR W base (.tuple #[.agg #[.string ⟨#[]⟩, .int .i64 0, .int .i64 0, .slice none 0 0], .bool false]) s st sp xs l h := by
  refine ⟨_, by rw [hk], ?_⟩
  rw [cutRec_bad hk]
  exact ⟨none, 0, rfl, OwnF.nil _ _⟩
theorem CutR.good {W : World} {base c : Nat} {a : Option Addr} {s : ByteArray} {st sp : Int} {xs : List Nat} {l h : Int} (hk : cutOk s st sp xs.length l h = true) {ys : List Nat} (hy : ys = (xs.drop l.toNat).take (h.toNat - l.toNat)) (hu : OwnF W base (.slice a ys.length c) ys) :
    CutR W base (.tuple #[.agg #[.string s, .int .i64 (st + l * sp), .int .i64 sp, .slice a ys.length c], .bool true]) s st sp xs l h := by
  subst hy
  refine ⟨_, by rw [hk], ?_⟩
  rw [cutRec_good hk]
  exact ⟨a, c, rfl, hu⟩
section
variable {B : Nat} {W : World}
theorem zero_rec' : (zerosOf (.agg #[.string ⟨#[]⟩, .int .i64 0, .int .i64 0, .slice none 0 0])).toList = [.string ⟨#[]⟩, .int .i64 0, .int .i64 0, .slice none 0 0] := zero_rec
theorem c_impl_toldRecord {v : Value} {s : ByteArray} {st sp : Int} {xs : List Nat} {base : Nat} (hv : RecO W base v s st sp xs) (hs : s.size ≤ 1048576) (hB : B ≤ W.heap.size) :
    ACalls Try.prog B 58 [v] W (fun r W' => r = .tuple #[if recOk s st sp xs.length then v else .agg #[.string ⟨#[]⟩, .int .i64 0, .int .i64 0, .slice none 0 0], .bool (recOk s st sp xs.length)] ∧ Below W.heap.size W W') := by
  have hv0 := hv.rec
  obtain ⟨a, c, rfl, hx⟩ := hv
  refine acalls_of Try.func58 rfl Try.ntmps58 (Nat.le_of_ble_eq_true rfl) ?_
  repeat' (first
      | refine s_pure tabOk rfl rfl rfl rfl ?_
      | refine aops_nil ?_
      | refine thn_normal ?_
      | refine aw_seq ?_
      | refine aw_reg ?_
      | refine s_pass rfl rfl rfl ?_
      | refine s_len tabOk rfl rfl rfl rfl ?_
      | refine aw_true rfl ?_
      | refine aw_false rfl ?_
      | refine aw_block ?_
      | refine aw_skip ?_
      | refine aw_exit ?_
      | refine blk_exit ?_
      | refine blk_exit_other rfl ?_
      | refine blk_normal ?_
      | refine thn_exit ?_
      | refine thn_ret ?_
      | refine blk_ret ?_
      | refine rnd_ret ?_
      | refine rnd_exit ?_
      | refine aw_ret ?_
      | refine s_arith tabOk rfl rfl rfl rfl (by simp only [InR]; omega) ?_
      | ((fail_if_success refine s_told rfl rfl ?_); refine s_part rfl rfl rfl ?_ ?_ <;> intro hc <;> (first | replace hc := of_decide_eq_true hc | replace hc := of_decide_eq_false hc | replace hc := eq_of_beq hc | skip))
      | (refine aw_if rfl ?_ ?_ <;> intro hc <;> (first | replace hc := of_decide_eq_true hc | replace hc := of_decide_eq_false hc | replace hc := eq_of_beq hc | skip))
      | refine s_index1 tabOk rfl rfl rfl rfl (by omega) (by omega) ?_)
  refine k_box rfl rfl rfl rfl rfl rfl rfl ?_
  intro b1 W1 l1 f1 g1
  have z1 := g1.size
  refine k_alloc tabOk rfl rfl rfl rfl rfl zero_rec ?_
  intro b2 W2 l2 f2 g2
  have z2 := g2.size
  have t1 := f1.lt
  have h1 := f1.grow g2
  have hg := g1.trans (g2.mono z1)
  repeat' (first
      | refine s_pure tabOk rfl rfl rfl rfl ?_
      | refine aops_nil ?_
      | refine thn_normal ?_
      | refine aw_seq ?_
      | refine aw_reg ?_
      | refine s_pass rfl rfl rfl ?_
      | refine s_len tabOk rfl rfl rfl rfl ?_
      | refine aw_true rfl ?_
      | refine aw_false rfl ?_
      | refine aw_block ?_
      | refine aw_skip ?_
      | refine aw_exit ?_
      | refine blk_exit ?_
      | refine blk_exit_other rfl ?_
      | refine blk_normal ?_
      | refine thn_exit ?_
      | refine thn_ret ?_
      | refine blk_ret ?_
      | refine rnd_ret ?_
      | refine rnd_exit ?_
      | refine aw_ret ?_
      | refine s_arith tabOk rfl rfl rfl rfl (by simp only [InR]; omega) ?_
      | ((fail_if_success refine s_told rfl rfl ?_); refine s_part rfl rfl rfl ?_ ?_ <;> intro hc <;> (first | replace hc := of_decide_eq_true hc | replace hc := of_decide_eq_false hc | replace hc := eq_of_beq hc | skip))
      | (refine aw_if rfl ?_ ?_ <;> intro hc <;> (first | replace hc := of_decide_eq_true hc | replace hc := of_decide_eq_false hc | replace hc := eq_of_beq hc | skip))
      | refine s_index1 tabOk rfl rfl rfl rfl (by omega) (by omega) ?_)
  refine k_loada tabOk rfl rfl rfl rfl h1 rfl ?_
  repeat' (first
      | refine s_pure tabOk rfl rfl rfl rfl ?_
      | refine aops_nil ?_
      | refine thn_normal ?_
      | refine aw_seq ?_
      | refine aw_reg ?_
      | refine s_pass rfl rfl rfl ?_
      | refine s_len tabOk rfl rfl rfl rfl ?_
      | refine aw_true rfl ?_
      | refine aw_false rfl ?_
      | refine aw_block ?_
      | refine aw_skip ?_
      | refine aw_exit ?_
      | refine blk_exit ?_
      | refine blk_exit_other rfl ?_
      | refine blk_normal ?_
      | refine thn_exit ?_
      | refine thn_ret ?_
      | refine blk_ret ?_
      | refine rnd_ret ?_
      | refine rnd_exit ?_
      | refine aw_ret ?_
      | refine s_arith tabOk rfl rfl rfl rfl (by simp only [InR]; omega) ?_
      | ((fail_if_success refine s_told rfl rfl ?_); refine s_part rfl rfl rfl ?_ ?_ <;> intro hc <;> (first | replace hc := of_decide_eq_true hc | replace hc := of_decide_eq_false hc | replace hc := eq_of_beq hc | skip))
      | (refine aw_if rfl ?_ ?_ <;> intro hc <;> (first | replace hc := of_decide_eq_true hc | replace hc := of_decide_eq_false hc | replace hc := eq_of_beq hc | skip))
      | refine s_index1 tabOk rfl rfl rfl rfl (by omega) (by omega) ?_)
  refine s_call rfl rfl rfl rfl ent41 (c_impl_ValidRecord (hv0.below hg) hs) ?_
  rintro _ W3 ⟨rfl, g3⟩
  have z3 := g3.size
  have hg3 := hg.trans (g3.mono (by omega))
  have h1' := h1.grow g3
  have h2' := f2.grow g3
  repeat' (first
      | refine s_pure tabOk rfl rfl rfl rfl ?_
      | refine aops_nil ?_
      | refine thn_normal ?_
      | refine aw_seq ?_
      | refine aw_reg ?_
      | refine s_pass rfl rfl rfl ?_
      | refine s_len tabOk rfl rfl rfl rfl ?_
      | refine aw_true rfl ?_
      | refine aw_false rfl ?_
      | refine aw_block ?_
      | refine aw_skip ?_
      | refine aw_exit ?_
      | refine blk_exit ?_
      | refine blk_exit_other rfl ?_
      | refine blk_normal ?_
      | refine thn_exit ?_
      | refine thn_ret ?_
      | refine blk_ret ?_
      | refine rnd_ret ?_
      | refine rnd_exit ?_
      | refine aw_ret ?_
      | refine s_arith tabOk rfl rfl rfl rfl (by simp only [InR]; omega) ?_
      | ((fail_if_success refine s_told rfl rfl ?_); refine s_part rfl rfl rfl ?_ ?_ <;> intro hc <;> (first | replace hc := of_decide_eq_true hc | replace hc := of_decide_eq_false hc | replace hc := eq_of_beq hc | skip))
      | (refine aw_if rfl ?_ ?_ <;> intro hc <;> (first | replace hc := of_decide_eq_true hc | replace hc := of_decide_eq_false hc | replace hc := eq_of_beq hc | skip))
      | refine s_index1 tabOk rfl rfl rfl rfl (by omega) (by omega) ?_)
  · have hk : recOk s st sp xs.length = false := by simpa using hc
    rw [hk]
    refine s_build tabOk [.string ⟨#[]⟩, .int .i64 0, .int .i64 0, .slice none 0 0] rfl rfl rfl rfl zero_rec' rfl ?_
    refine k_store tabOk (recC ⟨#[]⟩ 0 0 (.slice none 0 0)) rfl rfl rfl rfl rfl rfl (by omega) h2' rfl rfl ?_
    intro W4 f4 s4
    repeat' (first
      | refine s_pure tabOk rfl rfl rfl rfl ?_
      | refine aops_nil ?_
      | refine thn_normal ?_
      | refine aw_seq ?_
      | refine aw_reg ?_
      | refine s_pass rfl rfl rfl ?_
      | refine s_len tabOk rfl rfl rfl rfl ?_
      | refine aw_true rfl ?_
      | refine aw_false rfl ?_
      | refine aw_block ?_
      | refine aw_skip ?_
      | refine aw_exit ?_
      | refine blk_exit ?_
      | refine blk_exit_other rfl ?_
      | refine blk_normal ?_
      | refine thn_exit ?_
      | refine thn_ret ?_
      | refine blk_ret ?_
      | refine rnd_ret ?_
      | refine rnd_exit ?_
      | refine aw_ret ?_
      | refine s_arith tabOk rfl rfl rfl rfl (by simp only [InR]; omega) ?_
      | ((fail_if_success refine s_told rfl rfl ?_); refine s_part rfl rfl rfl ?_ ?_ <;> intro hc <;> (first | replace hc := of_decide_eq_true hc | replace hc := of_decide_eq_false hc | replace hc := eq_of_beq hc | skip))
      | (refine aw_if rfl ?_ ?_ <;> intro hc <;> (first | replace hc := of_decide_eq_true hc | replace hc := of_decide_eq_false hc | replace hc := eq_of_beq hc | skip))
      | refine s_index1 tabOk rfl rfl rfl rfl (by omega) (by omega) ?_)
    exact retK_ret tabOk (congrArg Array.toList Try.results58) (rv_cell rfl rfl rfl rfl f4.cells (rv_tmp rfl rfl rv_nil)) ⟨rfl, s4.below (by omega) hg3⟩
  · have hk : recOk s st sp xs.length = true := by simpa using hc
    rw [hk]
    refine k_loada tabOk rfl rfl rfl rfl h1' rfl ?_
    refine k_store tabOk (recC s st sp (.slice a xs.length c)) rfl rfl rfl rfl rfl rfl (by omega) h2' rfl rfl ?_
    intro W4 f4 s4
    repeat' (first
      | refine s_pure tabOk rfl rfl rfl rfl ?_
      | refine aops_nil ?_
      | refine thn_normal ?_
      | refine aw_seq ?_
      | refine aw_reg ?_
      | refine s_pass rfl rfl rfl ?_
      | refine s_len tabOk rfl rfl rfl rfl ?_
      | refine aw_true rfl ?_
      | refine aw_false rfl ?_
      | refine aw_block ?_
      | refine aw_skip ?_
      | refine aw_exit ?_
      | refine blk_exit ?_
      | refine blk_exit_other rfl ?_
      | refine blk_normal ?_
      | refine thn_exit ?_
      | refine thn_ret ?_
      | refine blk_ret ?_
      | refine rnd_ret ?_
      | refine rnd_exit ?_
      | refine aw_ret ?_
      | refine s_arith tabOk rfl rfl rfl rfl (by simp only [InR]; omega) ?_
      | ((fail_if_success refine s_told rfl rfl ?_); refine s_part rfl rfl rfl ?_ ?_ <;> intro hc <;> (first | replace hc := of_decide_eq_true hc | replace hc := of_decide_eq_false hc | replace hc := eq_of_beq hc | skip))
      | (refine aw_if rfl ?_ ?_ <;> intro hc <;> (first | replace hc := of_decide_eq_true hc | replace hc := of_decide_eq_false hc | replace hc := eq_of_beq hc | skip))
      | refine s_index1 tabOk rfl rfl rfl rfl (by omega) (by omega) ?_)
    exact retK_ret tabOk (congrArg Array.toList Try.results58) (rv_cell rfl rfl rfl rfl f4.cells (rv_tmp rfl rfl rv_nil)) ⟨rfl, s4.below (by omega) hg3⟩
theorem cutOk_1 {s : ByteArray} {st sp : Int} {n : Nat} {l h : Int} (h1 : recOk s st sp n = false) : cutOk s st sp n l h = false := by unfold cutOk; rw [h1]; rfl
theorem cutOk_2 {s : ByteArray} {st sp : Int} {n : Nat} {l h : Int} (h1 : ¬ (1 ≤ h ∧ h ≤ n)) : cutOk s st sp n l h = false := by
  unfold cutOk
  have : (decide (1 ≤ h) && decide (h ≤ (n : Int))) = false := by
    simp only [Bool.and_eq_false_iff, decide_eq_false_iff_not]; omega
  rw [this]; simp
theorem cutOk_3 {s : ByteArray} {st sp : Int} {n : Nat} {l h : Int} (h1 : ¬ (0 ≤ l ∧ l ≤ h - 1)) : cutOk s st sp n l h = false := by
  unfold cutOk
  have : (decide (0 ≤ l) && decide (l ≤ h - 1)) = false := by
    simp only [Bool.and_eq_false_iff, decide_eq_false_iff_not]; omega
  rw [this]; simp
theorem cutOk_4 {s : ByteArray} {st sp : Int} {n : Nat} {l h : Int} (h1 : recOk s st sp n = true) (h2 : 1 ≤ h ∧ h ≤ n) (h3 : 0 ≤ l ∧ l ≤ h - 1) : cutOk s st sp n l h = recOk s (st + l * sp) sp (h - l).toNat := by
  unfold cutOk
  rw [h1, decide_eq_true h2.1, decide_eq_true h2.2, decide_eq_true h3.1, decide_eq_true h3.2]
  simp
theorem recOk_range {s : ByteArray} {st sp : Int} {n : Nat} (h : recOk s st sp n = true) : 0 ≤ st ∧ st ≤ 4294967295 ∧ 1 ≤ sp ∧ sp ≤ 65535 ∧ 1 ≤ n ∧ n ≤ 128 := by
  unfold recOk at h
  simp at h
  omega
theorem c_impl_CutRecord {v : Value} {s : ByteArray} {st sp : Int} {xs : List Nat} {base : Nat} (hv : RecO W base v s st sp xs) (hs : s.size ≤ 1048576) (hl : xs.length ≤ 1048576) (l h : Int) (hB : B ≤ W.heap.size) :
    ACalls Try.prog B 44 [v, .int .i64 l, .int .i64 h] W (fun r W' => CutR W' W.heap.size r s st sp xs l h ∧ Below W.heap.size W W') := by
  have hv0 := hv.rec
  obtain ⟨a, c, rfl, hx⟩ := hv
  have hcap := hx.cap
  refine acalls_of Try.func44 rfl Try.ntmps44 (Nat.le_of_ble_eq_true rfl) ?_
  repeat' (first
      | refine s_pure tabOk rfl rfl rfl rfl ?_
      | refine aops_nil ?_
      | refine thn_normal ?_
      | refine aw_seq ?_
      | refine aw_reg ?_
      | refine s_pass rfl rfl rfl ?_
      | refine s_len tabOk rfl rfl rfl rfl ?_
      | refine aw_true rfl ?_
      | refine aw_false rfl ?_
      | refine aw_block ?_
      | refine aw_skip ?_
      | refine aw_exit ?_
      | refine blk_exit ?_
      | refine blk_exit_other rfl ?_
      | refine blk_normal ?_
      | refine thn_exit ?_
      | refine thn_ret ?_
      | refine blk_ret ?_
      | refine rnd_ret ?_
      | refine rnd_exit ?_
      | refine aw_ret ?_
      | refine s_arith tabOk rfl rfl rfl rfl (by simp only [InR]; omega) ?_
      | ((fail_if_success refine s_told rfl rfl ?_); refine s_part rfl rfl rfl ?_ ?_ <;> intro hc <;> (first | replace hc := of_decide_eq_true hc | replace hc := of_decide_eq_false hc | replace hc := eq_of_beq hc | skip))
      | (refine aw_if rfl ?_ ?_ <;> intro hc <;> (first | replace hc := of_decide_eq_true hc | replace hc := of_decide_eq_false hc | replace hc := eq_of_beq hc | skip))
      | refine s_index1 tabOk rfl rfl rfl rfl (by omega) (by omega) ?_)
  refine k_box rfl rfl rfl rfl rfl rfl rfl ?_
  intro b1 W1 l1 f1 g1
  have z1 := g1.size
  refine k_alloc tabOk rfl rfl rfl rfl rfl zero_rec ?_
  intro b2 W2 l2 f2 g2
  have z2 := g2.size
  have t1 := f1.lt
  have t2 := f2.lt
  have h1 := f1.grow g2
  have hg := g1.trans (g2.mono z1)
  repeat' (first
      | refine s_pure tabOk rfl rfl rfl rfl ?_
      | refine aops_nil ?_
      | refine thn_normal ?_
      | refine aw_seq ?_
      | refine aw_reg ?_
      | refine s_pass rfl rfl rfl ?_
      | refine s_len tabOk rfl rfl rfl rfl ?_
      | refine aw_true rfl ?_
      | refine aw_false rfl ?_
      | refine aw_block ?_
      | refine aw_skip ?_
      | refine aw_exit ?_
      | refine blk_exit ?_
      | refine blk_exit_other rfl ?_
      | refine blk_normal ?_
      | refine thn_exit ?_
      | refine thn_ret ?_
      | refine blk_ret ?_
      | refine rnd_ret ?_
      | refine rnd_exit ?_
      | refine aw_ret ?_
      | refine s_arith tabOk rfl rfl rfl rfl (by simp only [InR]; omega) ?_
      | ((fail_if_success refine s_told rfl rfl ?_); refine s_part rfl rfl rfl ?_ ?_ <;> intro hc <;> (first | replace hc := of_decide_eq_true hc | replace hc := of_decide_eq_false hc | replace hc := eq_of_beq hc | skip))
      | (refine aw_if rfl ?_ ?_ <;> intro hc <;> (first | replace hc := of_decide_eq_true hc | replace hc := of_decide_eq_false hc | replace hc := eq_of_beq hc | skip))
      | refine s_index1 tabOk rfl rfl rfl rfl (by omega) (by omega) ?_)
  refine k_loada tabOk rfl rfl rfl rfl h1 rfl ?_
  repeat' (first
      | refine s_pure tabOk rfl rfl rfl rfl ?_
      | refine aops_nil ?_
      | refine thn_normal ?_
      | refine aw_seq ?_
      | refine aw_reg ?_
      | refine s_pass rfl rfl rfl ?_
      | refine s_len tabOk rfl rfl rfl rfl ?_
      | refine aw_true rfl ?_
      | refine aw_false rfl ?_
      | refine aw_block ?_
      | refine aw_skip ?_
      | refine aw_exit ?_
      | refine blk_exit ?_
      | refine blk_exit_other rfl ?_
      | refine blk_normal ?_
      | refine thn_exit ?_
      | refine thn_ret ?_
      | refine blk_ret ?_
      | refine rnd_ret ?_
      | refine rnd_exit ?_
      | refine aw_ret ?_
      | refine s_arith tabOk rfl rfl rfl rfl (by simp only [InR]; omega) ?_
      | ((fail_if_success refine s_told rfl rfl ?_); refine s_part rfl rfl rfl ?_ ?_ <;> intro hc <;> (first | replace hc := of_decide_eq_true hc | replace hc := of_decide_eq_false hc | replace hc := eq_of_beq hc | skip))
      | (refine aw_if rfl ?_ ?_ <;> intro hc <;> (first | replace hc := of_decide_eq_true hc | replace hc := of_decide_eq_false hc | replace hc := eq_of_beq hc | skip))
      | refine s_index1 tabOk rfl rfl rfl rfl (by omega) (by omega) ?_)
  refine s_call rfl rfl rfl rfl ent41 (c_impl_ValidRecord (hv0.below hg) hs) ?_
  rintro _ W3 ⟨rfl, g3⟩
  have z3 := g3.size
  have hg3 := hg.trans (g3.mono (by omega))
  have h1' := h1.grow g3
  have h2' := f2.grow g3
  clear h1 f1 f2
  have bad : ∀ W', Below W.heap.size W W' → cutOk s st sp xs.length l h = false → CutR W' W.heap.size (.tuple #[.agg #[.string ⟨#[]⟩, .int .i64 0, .int .i64 0, .slice none 0 0], .bool false]) s st sp xs l h ∧ Below W.heap.size W W' := fun W' hb hk => ⟨CutR.bad hk, hb⟩
  repeat' (first
      | refine s_pure tabOk rfl rfl rfl rfl ?_
      | refine aops_nil ?_
      | refine thn_normal ?_
      | refine aw_seq ?_
      | refine aw_reg ?_
      | refine s_pass rfl rfl rfl ?_
      | refine s_len tabOk rfl rfl rfl rfl ?_
      | refine aw_true rfl ?_
      | refine aw_false rfl ?_
      | refine aw_block ?_
      | refine aw_skip ?_
      | refine aw_exit ?_
      | refine blk_exit ?_
      | refine blk_exit_other rfl ?_
      | refine blk_normal ?_
      | refine thn_exit ?_
      | refine thn_ret ?_
      | refine blk_ret ?_
      | refine rnd_ret ?_
      | refine rnd_exit ?_
      | refine aw_ret ?_
      | refine s_arith tabOk rfl rfl rfl rfl (by simp only [InR]; omega) ?_
      | ((fail_if_success refine s_told rfl rfl ?_); refine s_part rfl rfl rfl ?_ ?_ <;> intro hc <;> (first | replace hc := of_decide_eq_true hc | replace hc := of_decide_eq_false hc | replace hc := eq_of_beq hc | skip))
      | (refine aw_if rfl ?_ ?_ <;> intro hc <;> (first | replace hc := of_decide_eq_true hc | replace hc := of_decide_eq_false hc | replace hc := eq_of_beq hc | skip))
      | refine s_index1 tabOk rfl rfl rfl rfl (by omega) (by omega) ?_)
  · refine s_build tabOk [.string ⟨#[]⟩, .int .i64 0, .int .i64 0, .slice none 0 0] rfl rfl rfl rfl zero_rec' rfl ?_
    refine k_store tabOk (recC ⟨#[]⟩ 0 0 (.slice none 0 0)) rfl rfl rfl rfl rfl rfl (by omega) h2' rfl rfl ?_
    intro W4 f4 s4
    repeat' (first
      | refine s_pure tabOk rfl rfl rfl rfl ?_
      | refine aops_nil ?_
      | refine thn_normal ?_
      | refine aw_seq ?_
      | refine aw_reg ?_
      | refine s_pass rfl rfl rfl ?_
      | refine s_len tabOk rfl rfl rfl rfl ?_
      | refine aw_true rfl ?_
      | refine aw_false rfl ?_
      | refine aw_block ?_
      | refine aw_skip ?_
      | refine aw_exit ?_
      | refine blk_exit ?_
      | refine blk_exit_other rfl ?_
      | refine blk_normal ?_
      | refine thn_exit ?_
      | refine thn_ret ?_
      | refine blk_ret ?_
      | refine rnd_ret ?_
      | refine rnd_exit ?_
      | refine aw_ret ?_
      | refine s_arith tabOk rfl rfl rfl rfl (by simp only [InR]; omega) ?_
      | ((fail_if_success refine s_told rfl rfl ?_); refine s_part rfl rfl rfl ?_ ?_ <;> intro hc <;> (first | replace hc := of_decide_eq_true hc | replace hc := of_decide_eq_false hc | replace hc := eq_of_beq hc | skip))
      | (refine aw_if rfl ?_ ?_ <;> intro hc <;> (first | replace hc := of_decide_eq_true hc | replace hc := of_decide_eq_false hc | replace hc := eq_of_beq hc | skip))
      | refine s_index1 tabOk rfl rfl rfl rfl (by omega) (by omega) ?_)
    exact retK_ret tabOk (congrArg Array.toList Try.results44) (rv_cell rfl rfl rfl rfl f4.cells (rv_tmp rfl rfl rv_nil)) (bad _ (s4.below (by omega) hg3) (cutOk_1 (by simpa using hc)))
  have hk1 : recOk s st sp xs.length = true := by simpa using hc
  have hrg := recOk_range hk1
  clear hc
  refine k_load tabOk rfl rfl rfl rfl h1' rfl rfl ?_
  repeat' (first
      | refine s_pure tabOk rfl rfl rfl rfl ?_
      | refine aops_nil ?_
      | refine thn_normal ?_
      | refine aw_seq ?_
      | refine aw_reg ?_
      | refine s_pass rfl rfl rfl ?_
      | refine s_len tabOk rfl rfl rfl rfl ?_
      | refine aw_true rfl ?_
      | refine aw_false rfl ?_
      | refine aw_block ?_
      | refine aw_skip ?_
      | refine aw_exit ?_
      | refine blk_exit ?_
      | refine blk_exit_other rfl ?_
      | refine blk_normal ?_
      | refine thn_exit ?_
      | refine thn_ret ?_
      | refine blk_ret ?_
      | refine rnd_ret ?_
      | refine rnd_exit ?_
      | refine aw_ret ?_
      | refine s_arith tabOk rfl rfl rfl rfl (by simp only [InR]; omega) ?_
      | ((fail_if_success refine s_told rfl rfl ?_); refine s_part rfl rfl rfl ?_ ?_ <;> intro hc <;> (first | replace hc := of_decide_eq_true hc | replace hc := of_decide_eq_false hc | replace hc := eq_of_beq hc | skip))
      | (refine aw_if rfl ?_ ?_ <;> intro hc <;> (first | replace hc := of_decide_eq_true hc | replace hc := of_decide_eq_false hc | replace hc := eq_of_beq hc | skip))
      | refine s_index1 tabOk rfl rfl rfl rfl (by omega) (by omega) ?_)
  refine s_call rfl rfl rfl rfl ent73 (c_impl_within _ _ _) ?_
  rintro _ W3 ⟨rfl, rfl⟩
  repeat' (first
      | refine s_pure tabOk rfl rfl rfl rfl ?_
      | refine aops_nil ?_
      | refine thn_normal ?_
      | refine aw_seq ?_
      | refine aw_reg ?_
      | refine s_pass rfl rfl rfl ?_
      | refine s_len tabOk rfl rfl rfl rfl ?_
      | refine aw_true rfl ?_
      | refine aw_false rfl ?_
      | refine aw_block ?_
      | refine aw_skip ?_
      | refine aw_exit ?_
      | refine blk_exit ?_
      | refine blk_exit_other rfl ?_
      | refine blk_normal ?_
      | refine thn_exit ?_
      | refine thn_ret ?_
      | refine blk_ret ?_
      | refine rnd_ret ?_
      | refine rnd_exit ?_
      | refine aw_ret ?_
      | refine s_arith tabOk rfl rfl rfl rfl (by simp only [InR]; omega) ?_
      | ((fail_if_success refine s_told rfl rfl ?_); refine s_part rfl rfl rfl ?_ ?_ <;> intro hc <;> (first | replace hc := of_decide_eq_true hc | replace hc := of_decide_eq_false hc | replace hc := eq_of_beq hc | skip))
      | (refine aw_if rfl ?_ ?_ <;> intro hc <;> (first | replace hc := of_decide_eq_true hc | replace hc := of_decide_eq_false hc | replace hc := eq_of_beq hc | skip))
      | refine s_index1 tabOk rfl rfl rfl rfl (by omega) (by omega) ?_)
  · refine s_build tabOk [.string ⟨#[]⟩, .int .i64 0, .int .i64 0, .slice none 0 0] rfl rfl rfl rfl zero_rec' rfl ?_
    refine k_store tabOk (recC ⟨#[]⟩ 0 0 (.slice none 0 0)) rfl rfl rfl rfl rfl rfl (by omega) h2' rfl rfl ?_
    intro W4 f4 s4
    repeat' (first
      | refine s_pure tabOk rfl rfl rfl rfl ?_
      | refine aops_nil ?_
      | refine thn_normal ?_
      | refine aw_seq ?_
      | refine aw_reg ?_
      | refine s_pass rfl rfl rfl ?_
      | refine s_len tabOk rfl rfl rfl rfl ?_
      | refine aw_true rfl ?_
      | refine aw_false rfl ?_
      | refine aw_block ?_
      | refine aw_skip ?_
      | refine aw_exit ?_
      | refine blk_exit ?_
      | refine blk_exit_other rfl ?_
      | refine blk_normal ?_
      | refine thn_exit ?_
      | refine thn_ret ?_
      | refine blk_ret ?_
      | refine rnd_ret ?_
      | refine rnd_exit ?_
      | refine aw_ret ?_
      | refine s_arith tabOk rfl rfl rfl rfl (by simp only [InR]; omega) ?_
      | ((fail_if_success refine s_told rfl rfl ?_); refine s_part rfl rfl rfl ?_ ?_ <;> intro hc <;> (first | replace hc := of_decide_eq_true hc | replace hc := of_decide_eq_false hc | replace hc := eq_of_beq hc | skip))
      | (refine aw_if rfl ?_ ?_ <;> intro hc <;> (first | replace hc := of_decide_eq_true hc | replace hc := of_decide_eq_false hc | replace hc := eq_of_beq hc | skip))
      | refine s_index1 tabOk rfl rfl rfl rfl (by omega) (by omega) ?_)
    exact retK_ret tabOk (congrArg Array.toList Try.results44) (rv_cell rfl rfl rfl rfl f4.cells (rv_tmp rfl rfl rv_nil)) (bad _ (s4.below (by omega) hg3) (cutOk_2 (by simp at hc; omega)))
  have hk2 : 0 ≤ h ∧ h ≤ xs.length := by simpa using hc
  clear hc
  repeat' (first
      | refine s_pure tabOk rfl rfl rfl rfl ?_
      | refine aops_nil ?_
      | refine thn_normal ?_
      | refine aw_seq ?_
      | refine aw_reg ?_
      | refine s_pass rfl rfl rfl ?_
      | refine s_len tabOk rfl rfl rfl rfl ?_
      | refine aw_true rfl ?_
      | refine aw_false rfl ?_
      | refine aw_block ?_
      | refine aw_skip ?_
      | refine aw_exit ?_
      | refine blk_exit ?_
      | refine blk_exit_other rfl ?_
      | refine blk_normal ?_
      | refine thn_exit ?_
      | refine thn_ret ?_
      | refine blk_ret ?_
      | refine rnd_ret ?_
      | refine rnd_exit ?_
      | refine aw_ret ?_
      | refine s_arith tabOk rfl rfl rfl rfl (by simp only [InR]; omega) ?_
      | ((fail_if_success refine s_told rfl rfl ?_); refine s_part rfl rfl rfl ?_ ?_ <;> intro hc <;> (first | replace hc := of_decide_eq_true hc | replace hc := of_decide_eq_false hc | replace hc := eq_of_beq hc | skip))
      | (refine aw_if rfl ?_ ?_ <;> intro hc <;> (first | replace hc := of_decide_eq_true hc | replace hc := of_decide_eq_false hc | replace hc := eq_of_beq hc | skip))
      | refine s_index1 tabOk rfl rfl rfl rfl (by omega) (by omega) ?_)
  refine s_call rfl rfl rfl rfl ent73 (c_impl_within _ _ _) ?_
  rintro _ W3 ⟨rfl, rfl⟩
  repeat' (first
      | refine s_pure tabOk rfl rfl rfl rfl ?_
      | refine aops_nil ?_
      | refine thn_normal ?_
      | refine aw_seq ?_
      | refine aw_reg ?_
      | refine s_pass rfl rfl rfl ?_
      | refine s_len tabOk rfl rfl rfl rfl ?_
      | refine aw_true rfl ?_
      | refine aw_false rfl ?_
      | refine aw_block ?_
      | refine aw_skip ?_
      | refine aw_exit ?_
      | refine blk_exit ?_
      | refine blk_exit_other rfl ?_
      | refine blk_normal ?_
      | refine thn_exit ?_
      | refine thn_ret ?_
      | refine blk_ret ?_
      | refine rnd_ret ?_
      | refine rnd_exit ?_
      | refine aw_ret ?_
      | refine s_arith tabOk rfl rfl rfl rfl (by simp only [InR]; omega) ?_
      | ((fail_if_success refine s_told rfl rfl ?_); refine s_part rfl rfl rfl ?_ ?_ <;> intro hc <;> (first | replace hc := of_decide_eq_true hc | replace hc := of_decide_eq_false hc | replace hc := eq_of_beq hc | skip))
      | (refine aw_if rfl ?_ ?_ <;> intro hc <;> (first | replace hc := of_decide_eq_true hc | replace hc := of_decide_eq_false hc | replace hc := eq_of_beq hc | skip))
      | refine s_index1 tabOk rfl rfl rfl rfl (by omega) (by omega) ?_)
  · refine s_build tabOk [.string ⟨#[]⟩, .int .i64 0, .int .i64 0, .slice none 0 0] rfl rfl rfl rfl zero_rec' rfl ?_
    refine k_store tabOk (recC ⟨#[]⟩ 0 0 (.slice none 0 0)) rfl rfl rfl rfl rfl rfl (by omega) h2' rfl rfl ?_
    intro W4 f4 s4
    repeat' (first
      | refine s_pure tabOk rfl rfl rfl rfl ?_
      | refine aops_nil ?_
      | refine thn_normal ?_
      | refine aw_seq ?_
      | refine aw_reg ?_
      | refine s_pass rfl rfl rfl ?_
      | refine s_len tabOk rfl rfl rfl rfl ?_
      | refine aw_true rfl ?_
      | refine aw_false rfl ?_
      | refine aw_block ?_
      | refine aw_skip ?_
      | refine aw_exit ?_
      | refine blk_exit ?_
      | refine blk_exit_other rfl ?_
      | refine blk_normal ?_
      | refine thn_exit ?_
      | refine thn_ret ?_
      | refine blk_ret ?_
      | refine rnd_ret ?_
      | refine rnd_exit ?_
      | refine aw_ret ?_
      | refine s_arith tabOk rfl rfl rfl rfl (by simp only [InR]; omega) ?_
      | ((fail_if_success refine s_told rfl rfl ?_); refine s_part rfl rfl rfl ?_ ?_ <;> intro hc <;> (first | replace hc := of_decide_eq_true hc | replace hc := of_decide_eq_false hc | replace hc := eq_of_beq hc | skip))
      | (refine aw_if rfl ?_ ?_ <;> intro hc <;> (first | replace hc := of_decide_eq_true hc | replace hc := of_decide_eq_false hc | replace hc := eq_of_beq hc | skip))
      | refine s_index1 tabOk rfl rfl rfl rfl (by omega) (by omega) ?_)
    exact retK_ret tabOk (congrArg Array.toList Try.results44) (rv_cell rfl rfl rfl rfl f4.cells (rv_tmp rfl rfl rv_nil)) (bad _ (s4.below (by omega) hg3) (cutOk_3 (by simp at hc; omega)))
  have hk3 : 0 ≤ l ∧ l ≤ h - 1 := by simpa using hc
  clear hc
  have hm0 : 0 ≤ l * sp := Int.mul_nonneg hk3.1 (by omega)
  have hm1 : l * sp ≤ 128 * 65535 := Int.mul_le_mul (by omega) (by omega) (by omega) (by decide)
  obtain ⟨a', c', hcut, hsl, hcc⟩ := (hx.sl.below hg3).cut (l := l.toNat) (h := h.toNat) (by omega) (by omega) hcap
  have hys : ((xs.drop l.toNat).take (h.toNat - l.toNat)).length = h.toNat - l.toNat := by simp; omega
  refine aw_two followsMixed (fun W9 => Below W3.heap.size W3 W9) (fun j => Nat.beq j 14 || Nat.beq j 16) (fun i => Nat.beq i 1 || Nat.beq i 4 || Nat.beq i 8) [0, 1, 2, 3, 4, 5, 6, 7, 8, 9, 10, 11, 13, 12, 14, 15, 16] (by kernel_rfl) (by kernel_rfl) (Below.refl _ _) ?_
  repeat (first
      | refine tp_pure tabOk lx rfl rfl rfl rfl (by kernel_rfl) ?_
      | refine tp_arith tabOk lx rfl rfl rfl rfl (by simp only [InR]; omega) (by kernel_rfl) ?_)
  refine tp_load tabOk lx rfl rfl rfl rfl (fun W9 hb => h1'.grow hb) rfl rfl (by kernel_rfl) ?_
  repeat (first
      | refine tp_pure tabOk lx rfl rfl rfl rfl (by kernel_rfl) ?_
      | refine tp_arith tabOk lx rfl rfl rfl rfl (by simp only [InR]; omega) (by kernel_rfl) ?_)
  refine tp_load tabOk lx rfl rfl rfl rfl (fun W9 hb => h1'.grow hb) rfl rfl (by kernel_rfl) ?_
  repeat (first
      | refine tp_pure tabOk lx rfl rfl rfl rfl (by kernel_rfl) ?_
      | refine tp_arith tabOk lx rfl rfl rfl rfl (by simp only [InR]; omega) (by kernel_rfl) ?_)
  refine tp_load tabOk lx rfl rfl rfl rfl (fun W9 hb => h1'.grow hb) rfl rfl (by kernel_rfl) ?_
  repeat (first
      | refine tp_pure tabOk lx rfl rfl rfl rfl (by kernel_rfl) ?_
      | refine tp_arith tabOk lx rfl rfl rfl rfl (by simp only [InR]; omega) (by kernel_rfl) ?_)
  refine tp_cut tabOk lx rfl rfl rfl rfl (by omega) (by omega) (by omega) hcap (by kernel_rfl) ?_
  rw [hcut]
  repeat (first
      | refine tp_pure tabOk lx rfl rfl rfl rfl (by kernel_rfl) ?_
      | refine tp_arith tabOk lx rfl rfl rfl rfl (by simp only [InR]; omega) (by kernel_rfl) ?_)
  refine tp_call rfl rfl rfl rfl (by kernel_rfl) ent75 (c_Clone (xs := (xs.drop l.toNat).take (h.toNat - l.toNat)) hsl (by omega) (by omega) (by omega)) ?_
  rintro _ W5 ⟨⟨a5, c5, rfl⟩, o5, g5⟩
  refine ⟨g5, ?_⟩
  generalize hY : (xs.drop l.toNat).take (h.toNat - l.toNat) = ys at *
  have z5 := g5.size
  have f1 := h1'.grow g5
  have f2 := h2'.grow g5
  refine tp_switch ?_
  repeat (refine tq_pure tabOk lx rfl rfl rfl rfl (by kernel_rfl) ?_)
  refine tq_store tabOk (recC s (st + l * sp) sp (.slice a xs.length c)) rfl rfl rfl rfl rfl rfl (by kernel_rfl) (by omega) f1 rfl rfl ?_
  intro W6 f6 s6
  repeat (refine tq_pure tabOk lx rfl rfl rfl rfl (by kernel_rfl) ?_)
  refine tq_store tabOk (recC s (st + l * sp) sp (.slice a5 ys.length c5)) rfl rfl rfl rfl rfl rfl (by kernel_rfl) (by omega) f6 rfl rfl ?_
  intro W7 f7 s7
  refine tq_done ?_
  have hb5 : ∀ k, (Value.slice a5 ys.length c5).ownBlock = some k → k ≠ b1 := fun k hk => by
    have := o5.lt k hk
    omega
  have o7 : OwnF W7 W3.heap.size (.slice a5 ys.length c5) ys := (o5.same s6 hb5).same s7 hb5
  have hg7 : Below W.heap.size W W7 := s7.below l1 (s6.below l1 (hg3.trans (g5.mono (by omega))))
  have k2 : Blkc W7 b2 _ _ := s7.blk (by omega) (s6.blk (by omega) f2)
  have y6 := s6.size
  have y7 := s7.size
  repeat' (first
      | refine s_pure tabOk rfl rfl rfl rfl ?_
      | refine aops_nil ?_
      | refine thn_normal ?_
      | refine aw_seq ?_
      | refine aw_reg ?_
      | refine s_pass rfl rfl rfl ?_
      | refine s_len tabOk rfl rfl rfl rfl ?_
      | refine aw_true rfl ?_
      | refine aw_false rfl ?_
      | refine aw_block ?_
      | refine aw_skip ?_
      | refine aw_exit ?_
      | refine blk_exit ?_
      | refine blk_exit_other rfl ?_
      | refine blk_normal ?_
      | refine thn_exit ?_
      | refine thn_ret ?_
      | refine blk_ret ?_
      | refine rnd_ret ?_
      | refine rnd_exit ?_
      | refine aw_ret ?_
      | refine s_arith tabOk rfl rfl rfl rfl (by simp only [InR]; omega) ?_
      | ((fail_if_success refine s_told rfl rfl ?_); refine s_part rfl rfl rfl ?_ ?_ <;> intro hc <;> (first | replace hc := of_decide_eq_true hc | replace hc := of_decide_eq_false hc | replace hc := eq_of_beq hc | skip))
      | (refine aw_if rfl ?_ ?_ <;> intro hc <;> (first | replace hc := of_decide_eq_true hc | replace hc := of_decide_eq_false hc | replace hc := eq_of_beq hc | skip))
      | refine s_index1 tabOk rfl rfl rfl rfl (by omega) (by omega) ?_)
  refine k_loada tabOk rfl rfl rfl rfl f7 rfl ?_
  repeat' (first
      | refine s_pure tabOk rfl rfl rfl rfl ?_
      | refine aops_nil ?_
      | refine thn_normal ?_
      | refine aw_seq ?_
      | refine aw_reg ?_
      | refine s_pass rfl rfl rfl ?_
      | refine s_len tabOk rfl rfl rfl rfl ?_
      | refine aw_true rfl ?_
      | refine aw_false rfl ?_
      | refine aw_block ?_
      | refine aw_skip ?_
      | refine aw_exit ?_
      | refine blk_exit ?_
      | refine blk_exit_other rfl ?_
      | refine blk_normal ?_
      | refine thn_exit ?_
      | refine thn_ret ?_
      | refine blk_ret ?_
      | refine rnd_ret ?_
      | refine rnd_exit ?_
      | refine aw_ret ?_
      | refine s_arith tabOk rfl rfl rfl rfl (by simp only [InR]; omega) ?_
      | ((fail_if_success refine s_told rfl rfl ?_); refine s_part rfl rfl rfl ?_ ?_ <;> intro hc <;> (first | replace hc := of_decide_eq_true hc | replace hc := of_decide_eq_false hc | replace hc := eq_of_beq hc | skip))
      | (refine aw_if rfl ?_ ?_ <;> intro hc <;> (first | replace hc := of_decide_eq_true hc | replace hc := of_decide_eq_false hc | replace hc := eq_of_beq hc | skip))
      | refine s_index1 tabOk rfl rfl rfl rfl (by omega) (by omega) ?_)
  refine s_call rfl rfl rfl rfl ent58 (c_impl_toldRecord ⟨a5, c5, rfl, o7⟩ hs (by omega)) ?_
  rintro r W8 ⟨hr, g8⟩
  have k2' := k2.grow g8
  have y8 := g8.size
  have hok := cutOk_4 (l := l) (h := h) hk1 ⟨by omega, hk2.2⟩ hk3
  rw [show (h - l).toNat = ys.length by omega] at hok
  cases hk : recOk s (st + l * sp) sp ys.length
  · rw [hk] at hr hok
    simp only [Bool.false_eq_true, if_false] at hr
    subst hr
    repeat' (first
      | refine s_pure tabOk rfl rfl rfl rfl ?_
      | refine aops_nil ?_
      | refine thn_normal ?_
      | refine aw_seq ?_
      | refine aw_reg ?_
      | refine s_pass rfl rfl rfl ?_
      | refine s_len tabOk rfl rfl rfl rfl ?_
      | refine aw_true rfl ?_
      | refine aw_false rfl ?_
      | refine aw_block ?_
      | refine aw_skip ?_
      | refine aw_exit ?_
      | refine blk_exit ?_
      | refine blk_exit_other rfl ?_
      | refine blk_normal ?_
      | refine thn_exit ?_
      | refine thn_ret ?_
      | refine blk_ret ?_
      | refine rnd_ret ?_
      | refine rnd_exit ?_
      | refine aw_ret ?_
      | refine s_arith tabOk rfl rfl rfl rfl (by simp only [InR]; omega) ?_
      | ((fail_if_success refine s_told rfl rfl ?_); refine s_part rfl rfl rfl ?_ ?_ <;> intro hc <;> (first | replace hc := of_decide_eq_true hc | replace hc := of_decide_eq_false hc | replace hc := eq_of_beq hc | skip))
      | (refine aw_if rfl ?_ ?_ <;> intro hc <;> (first | replace hc := of_decide_eq_true hc | replace hc := of_decide_eq_false hc | replace hc := eq_of_beq hc | skip))
      | refine s_index1 tabOk rfl rfl rfl rfl (by omega) (by omega) ?_)
    refine k_store tabOk (recC ⟨#[]⟩ 0 0 (.slice none 0 0)) rfl rfl rfl rfl rfl rfl (by omega) k2' rfl rfl ?_
    intro W9 f9 s9
    repeat' (first
      | refine s_pure tabOk rfl rfl rfl rfl ?_
      | refine aops_nil ?_
      | refine thn_normal ?_
      | refine aw_seq ?_
      | refine aw_reg ?_
      | refine s_pass rfl rfl rfl ?_
      | refine s_len tabOk rfl rfl rfl rfl ?_
      | refine aw_true rfl ?_
      | refine aw_false rfl ?_
      | refine aw_block ?_
      | refine aw_skip ?_
      | refine aw_exit ?_
      | refine blk_exit ?_
      | refine blk_exit_other rfl ?_
      | refine blk_normal ?_
      | refine thn_exit ?_
      | refine thn_ret ?_
      | refine blk_ret ?_
      | refine rnd_ret ?_
      | refine rnd_exit ?_
      | refine aw_ret ?_
      | refine s_arith tabOk rfl rfl rfl rfl (by simp only [InR]; omega) ?_
      | ((fail_if_success refine s_told rfl rfl ?_); refine s_part rfl rfl rfl ?_ ?_ <;> intro hc <;> (first | replace hc := of_decide_eq_true hc | replace hc := of_decide_eq_false hc | replace hc := eq_of_beq hc | skip))
      | (refine aw_if rfl ?_ ?_ <;> intro hc <;> (first | replace hc := of_decide_eq_true hc | replace hc := of_decide_eq_false hc | replace hc := eq_of_beq hc | skip))
      | refine s_index1 tabOk rfl rfl rfl rfl (by omega) (by omega) ?_)
    exact retK_ret tabOk (congrArg Array.toList Try.results44) (rv_cell rfl rfl rfl rfl f9.cells (rv_tmp rfl rfl rv_nil)) (bad _ (s9.below (by omega) (hg7.trans (g8.mono (by omega)))) hok)
  · rw [hk] at hr hok
    simp only [if_true] at hr
    subst hr
    repeat' (first
      | refine s_pure tabOk rfl rfl rfl rfl ?_
      | refine aops_nil ?_
      | refine thn_normal ?_
      | refine aw_seq ?_
      | refine aw_reg ?_
      | refine s_pass rfl rfl rfl ?_
      | refine s_len tabOk rfl rfl rfl rfl ?_
      | refine aw_true rfl ?_
      | refine aw_false rfl ?_
      | refine aw_block ?_
      | refine aw_skip ?_
      | refine aw_exit ?_
      | refine blk_exit ?_
      | refine blk_exit_other rfl ?_
      | refine blk_normal ?_
      | refine thn_exit ?_
      | refine thn_ret ?_
      | refine blk_ret ?_
      | refine rnd_ret ?_
      | refine rnd_exit ?_
      | refine aw_ret ?_
      | refine s_arith tabOk rfl rfl rfl rfl (by simp only [InR]; omega) ?_
      | ((fail_if_success refine s_told rfl rfl ?_); refine s_part rfl rfl rfl ?_ ?_ <;> intro hc <;> (first | replace hc := of_decide_eq_true hc | replace hc := of_decide_eq_false hc | replace hc := eq_of_beq hc | skip))
      | (refine aw_if rfl ?_ ?_ <;> intro hc <;> (first | replace hc := of_decide_eq_true hc | replace hc := of_decide_eq_false hc | replace hc := eq_of_beq hc | skip))
      | refine s_index1 tabOk rfl rfl rfl rfl (by omega) (by omega) ?_)
    refine k_store tabOk (recC s (st + l * sp) sp (.slice a5 ys.length c5)) rfl rfl rfl rfl rfl rfl (by omega) k2' rfl rfl ?_
    intro W9 f9 s9
    repeat' (first
      | refine s_pure tabOk rfl rfl rfl rfl ?_
      | refine aops_nil ?_
      | refine thn_normal ?_
      | refine aw_seq ?_
      | refine aw_reg ?_
      | refine s_pass rfl rfl rfl ?_
      | refine s_len tabOk rfl rfl rfl rfl ?_
      | refine aw_true rfl ?_
      | refine aw_false rfl ?_
      | refine aw_block ?_
      | refine aw_skip ?_
      | refine aw_exit ?_
      | refine blk_exit ?_
      | refine blk_exit_other rfl ?_
      | refine blk_normal ?_
      | refine thn_exit ?_
      | refine thn_ret ?_
      | refine blk_ret ?_
      | refine rnd_ret ?_
      | refine rnd_exit ?_
      | refine aw_ret ?_
      | refine s_arith tabOk rfl rfl rfl rfl (by simp only [InR]; omega) ?_
      | ((fail_if_success refine s_told rfl rfl ?_); refine s_part rfl rfl rfl ?_ ?_ <;> intro hc <;> (first | replace hc := of_decide_eq_true hc | replace hc := of_decide_eq_false hc | replace hc := eq_of_beq hc | skip))
      | (refine aw_if rfl ?_ ?_ <;> intro hc <;> (first | replace hc := of_decide_eq_true hc | replace hc := of_decide_eq_false hc | replace hc := eq_of_beq hc | skip))
      | refine s_index1 tabOk rfl rfl rfl rfl (by omega) (by omega) ?_)
    have o9 : OwnF W9 W.heap.size (.slice a5 ys.length c5) ys := ((o7.below g8).same s9 (fun k hk => by
      have := o5.lt k hk
      omega)).weak (by omega)
    exact retK_ret tabOk (congrArg Array.toList Try.results44) (rv_cell rfl rfl rfl rfl f9.cells (rv_tmp rfl rfl rv_nil)) ⟨CutR.good hok hY.symm o9, s9.below (by omega) (hg7.trans (g8.mono (by omega)))⟩
end
end Go.Proofs.Ytkbcbbcacabelaa
