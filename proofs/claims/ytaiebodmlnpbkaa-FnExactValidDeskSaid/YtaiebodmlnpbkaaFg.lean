/- Records: their sizes, copies, comparison; which are good. -/
import Derived.Test.YtaiebodmlnpbkaaCn12
import Derived.Test.YtaiebodmlnpbkaaFe
import Derived.Test.YtaiebodmlnpbkaaGk
namespace Go.Proofs.Ytaiebodmlnpbkaa
set_option linter.unusedSimpArgs false
set_option linter.unusedVariables false
open Go Cn Go.RowKit
def recC (s : ByteArray) (st sp : Int) (sv : Value) : List Value := [.string s, .int .i64 st, .int .i64 sp, sv]
/-- a record by what it says -/
def RecA (W : World) (v : Value) (s : ByteArray) (st sp : Int) (xs : List Nat) : Prop := ∃ a c, v = .agg #[.string s, .int .i64 st, .int .i64 sp, .slice a xs.length c] ∧ SlF W (.slice a xs.length c) xs
theorem RecA.below {W W' : World} {v : Value} {s : ByteArray} {st sp : Int} {xs : List Nat} (h : RecA W v s st sp xs) (hb : Below W.heap.size W W') : RecA W' v s st sp xs := by
  obtain ⟨a, c, h1, h2⟩ := h
  exact ⟨a, c, h1, h2.below hb⟩
def szF (left : Int) (n : Nat) : Int := if left - n < 0 then -1 else left - n
def szR (left : Int) (m n : Nat) : Int := if left - m < 0 then -1 else szF (left - m) n
theorem szR_fits {m n : Nat} (h : ¬ szR 1048576 m n < 0) : m ≤ 1048576 ∧ n ≤ 1048576 := by
  unfold szR szF at h
  split at h
  · omega
  · split at h <;> omega
section
variable {B : Nat} {W : World}
theorem c_laws_szFloat32S {a : Option Addr} {n c : Nat} (hn : n ≤ 9223372036854775807) {left : Int} (h0 : 0 ≤ left) (h1 : left ≤ 1048576) : ACalls Try.prog B 111 [.slice a n c, .int .i64 left] W (fun r W' => r = .int .i64 (szF left n) ∧ W' = W) := by
  refine acalls_of Try.func111 rfl Try.ntmps111 (Nat.le_of_ble_eq_true rfl) ?_
  repeat' (first
      | refine s_pure tabOk rfl rfl rfl rfl ?_
      | refine aops_nil ?_
      | refine thn_normal ?_
      | refine aw_seq ?_
      | refine aw_reg ?_
      | refine s_pass rfl rfl rfl ?_
      | refine s_len tabOk rfl rfl rfl rfl ?_
      | refine aw_true rfl ?_
      | refine aw_false rfl ?_
      | refine aw_block ?_
      | refine aw_skip ?_
      | refine aw_exit ?_
      | refine blk_exit ?_
      | refine blk_exit_other rfl ?_
      | refine blk_normal ?_
      | refine thn_exit ?_
      | refine thn_ret ?_
      | refine blk_ret ?_
      | refine rnd_ret ?_
      | refine rnd_exit ?_
      | refine aw_ret ?_
      | refine s_arith tabOk rfl rfl rfl rfl (by simp only [InR]; omega) ?_
      | ((fail_if_success refine s_told rfl rfl ?_); refine s_part rfl rfl rfl ?_ ?_ <;> intro hc <;> (first | replace hc := of_decide_eq_true hc | replace hc := of_decide_eq_false hc | replace hc := eq_of_beq hc | skip))
      | (refine aw_if rfl ?_ ?_ <;> intro hc <;> (first | replace hc := of_decide_eq_true hc | replace hc := of_decide_eq_false hc | replace hc := eq_of_beq hc | skip))
      | refine s_index1 tabOk rfl rfl rfl rfl (by omega) (by omega) ?_)
  · refine retK_ret tabOk (congrArg Array.toList Try.results111) (rv_tmp rfl rfl rv_nil) ⟨?_, rfl⟩
    simp only [retV, szF]; rw [if_pos (by omega)]
  · refine retK_ret tabOk (congrArg Array.toList Try.results111) (rv_tmp rfl rfl rv_nil) ⟨?_, rfl⟩
    simp only [retV, szF]; rw [if_neg (by omega)]
theorem SlF.same {W W' : World} {b : Nat} {v : Value} {xs : List Nat} (h : SlF W v xs) (s : Same b W W') (hne : ∀ a n c, v = .slice (some a) n c → a.block ≠ b) : SlF W' v xs := by
  rcases h with h | ⟨b', off, c, h1, h2⟩
  · exact .inl h
  · refine .inr ⟨b', off, c, h1, fun i hi => ?_⟩
    obtain ⟨y, h3, h4⟩ := h2 i hi
    have hq : b' ≠ b := hne _ _ _ h1
    exact ⟨y, by rw [s.cell (a := ⟨b', off + i, none⟩) hq]; exact h3, h4⟩
theorem zero_rec : (zerosOf (.agg #[.string ⟨#[]⟩, .int .i64 0, .int .i64 0, .slice none 0 0])).toList = recC ⟨#[]⟩ 0 0 (.slice none 0 0) := by
  simp [zerosOf, Value.cells, cl, recC]
/-! ### names, good records -/
@[irreducible] def letter (s : ByteArray) (i : Nat) : Bool := !(decide (bt s i < 97) || decide (bt s i > 122))
@[irreducible] def nameOk (s : ByteArray) : Bool := (List.range s.size).all (letter s) && (decide (1 ≤ s.size) && decide (s.size ≤ 8))
theorem letter_no {s : ByteArray} {i : Nat} (h : bt s i < 97 ∨ bt s i > 122) : letter s i = false := by
  unfold letter; simpa using by omega
theorem letter_yes {s : ByteArray} {i : Nat} (h : ¬ bt s i < 97) (h' : ¬ bt s i > 122) : letter s i = true := by
  unfold letter; simpa using by omega
theorem nameOk_no {s : ByteArray} {i : Nat} (hi : i < s.size) (h : letter s i = false) : nameOk s = false := by
  unfold nameOk
  have : (List.range s.size).all (letter s) = false := by
    rw [List.all_eq_false]
    exact ⟨i, by simpa using hi, by simp [h]⟩
  rw [this]; rfl
theorem nameOk_all {s : ByteArray} (h : ∀ i, i < s.size → letter s i = true) : nameOk s = (decide (1 ≤ s.size) && decide (s.size ≤ 8)) := by
  unfold nameOk
  have : (List.range s.size).all (letter s) = true := by
    rw [List.all_eq_true]
    intro i hi
    exact h i (by simpa using hi)
  rw [this]; rfl
@[irreducible] def recOk (s : ByteArray) (st sp : Int) (n : Nat) : Bool := nameOk s && (decide (0 ≤ st) && decide (st ≤ 4294967295)) && (decide (1 ≤ sp) && decide (sp ≤ 65535)) && (decide (1 ≤ n) && decide (n ≤ 128))
end
end Go.Proofs.Ytaiebodmlnpbkaa
