/- Records packed: both ways. -/
import Derived.Test.YtmplincflbhmiaaXFa
import Derived.Test.YtmplincflbhmiaaXFz
import Derived.Test.YtmplincflbhmiaaCn11
import Derived.Test.YtmplincflbhmiaaXFq
import Derived.Test.YtmplincflbhmiaaXGz
import Derived.Test.YtmplincflbhmiaaCn12
namespace Go.Proofs.Ytmplincflbhmiaa
set_option linter.unusedSimpArgs false
set_option linter.unusedVariables false
open Go Cn Go.RowKit

/-! ### what is read stays -/
theorem RdF.mono {W W' : World} {b off : Nat} {xs : List Nat} (h : RdF W b off xs) (hc : ∀ a v, W.cell? a = some v → W'.cell? a = some v) : RdF W' b off xs := by
  intro i hi
  obtain ⟨y, h1, h2⟩ := h i hi
  exact ⟨y, hc _ _ h1, h2⟩
theorem SlF.mono {W W' : World} {v : Value} {xs : List Nat} (h : SlF W v xs) (hc : ∀ a u, W.cell? a = some u → W'.cell? a = some u) : SlF W' v xs := by
  rcases h with h | ⟨b, off, c, h1, h2⟩
  · exact .inl h
  · exact .inr ⟨b, off, c, h1, h2.mono hc⟩
theorem cell_alloc {W : World} {a : Addr} {v : Value} (o : Obj) (h : W.cell? a = some v) : (W.alloc o).cell? a = some v := by
  rw [World.cell?_alloc_lt _ _ _ (World.block_lt_of_cell? _ _ h)]; exact h
theorem SlF.alloc {W : World} {v : Value} {xs : List Nat} (h : SlF W v xs) (o : Obj) : SlF (W.alloc o) v xs := h.mono fun _ _ hc => cell_alloc o hc
theorem SlF.below {W W' : World} {v : Value} {xs : List Nat} (h : SlF W v xs) (hb : Below W.heap.size W W') : SlF W' v xs :=
  h.mono fun a u hc => by rw [hb.cell (World.block_lt_of_cell? _ _ hc)]; exact hc
/-- canonical words -/
def CanF (xs : List Nat) : Prop := ∀ i, i < xs.length → cb .f32 (xs.getD i 0) = xs.getD i 0
theorem SlF.canon {W : World} {v : Value} {xs : List Nat} (h : SlF W v xs) : CanF xs := by
  rcases h with ⟨-, rfl⟩ | ⟨b, off, c, -, h2⟩
  · intro i hi; simp at hi
  · intro i hi; exact h2.canon hi
theorem rdF_block {W : World} {b : Nat} {e : TypeId} {f : Nat × Nat} {xs : List Nat} {cur : Array Value} (h : W.heap[b]? = some (.cells cur e f)) (hc : CanF xs) (hx : ∀ i, i < xs.length → cur[i]? = some (.float .f32 (xs.getD i 0))) : RdF W b 0 xs := by
  intro i hi
  refine ⟨xs.getD i 0, ?_, hc i hi⟩
  simp [World.cell?, h, hx i hi]
/-! ### copies -/
theorem splice_one {cur : Array Value} {i : Nat} (h : i < cur.size) (v : Value) (j : Nat) : (splice cur i [v])[j]? = if j = i then some v else cur[j]? := by
  unfold splice
  simp only [List.getElem?_toArray, List.append_assoc, List.length_singleton]
  have hl : (cur.toList.take i).length = i := by simp; omega
  by_cases h1 : j < i
  · rw [List.getElem?_append_left (by omega), if_neg (by omega), List.getElem?_take, if_pos h1]; simp
  · rw [List.getElem?_append_right (by omega), hl]
    by_cases h2 : j = i
    · subst h2; simp
    · rw [if_neg h2]
      rw [show j - i = (j - i - 1) + 1 by omega]
      simp only [List.singleton_append, List.getElem?_cons_succ, List.getElem?_drop]
      rw [show i + 1 + (j - i - 1) = j by omega]
      simp
section
variable {B : Nat} {W : World}
end
end Go.Proofs.Ytmplincflbhmiaa
namespace Go.Proofs.Ytmplincflbhmiaa
set_option linter.unusedSimpArgs false
set_option linter.unusedVariables false
open Go Cn Go.RowKit
section
variable {B : Nat} {W : World}
theorem c_impl_isMany {v : Value} {xs : List Nat} (hv : SlF W v xs) (n : Int) : ACalls Try.prog B 61 [v, .int .i64 n] W (fun r W' => r = .bool (decide (n ≤ xs.length) && decide (xs.length ≤ 128)) ∧ W' = W) := by
  have hx : ∃ a c, v = .slice a xs.length c := by
    rcases hv with ⟨rfl, rfl⟩ | ⟨b, off, c, rfl, hr⟩
    · exact ⟨_, _, rfl⟩
    · exact ⟨_, _, rfl⟩
  obtain ⟨a, c, rfl⟩ := hx
  refine acalls_of Try.func61 rfl Try.ntmps61 (Nat.le_of_ble_eq_true rfl) ?_
  repeat' (first
      | refine s_pure tabOk rfl rfl rfl rfl ?_
      | refine aops_nil ?_
      | refine thn_normal ?_
      | refine aw_seq ?_
      | refine aw_reg ?_
      | refine s_pass rfl rfl rfl ?_
      | refine s_len tabOk rfl rfl rfl rfl ?_
      | refine aw_true rfl ?_
      | refine aw_false rfl ?_
      | refine aw_block ?_
      | refine aw_skip ?_
      | refine aw_exit ?_
      | refine blk_exit ?_
      | refine blk_exit_other rfl ?_
      | refine blk_normal ?_
      | refine thn_exit ?_
      | refine thn_ret ?_
      | refine blk_ret ?_
      | refine rnd_ret ?_
      | refine rnd_exit ?_
      | refine aw_ret ?_
      | refine s_arith tabOk rfl rfl rfl rfl (by simp only [InR]; omega) ?_
      | ((fail_if_success refine s_told rfl rfl ?_); refine s_part rfl rfl rfl ?_ ?_ <;> intro hc <;> (first | replace hc := of_decide_eq_true hc | replace hc := of_decide_eq_false hc | replace hc := eq_of_beq hc | skip))
      | (refine aw_if rfl ?_ ?_ <;> intro hc <;> (first | replace hc := of_decide_eq_true hc | replace hc := of_decide_eq_false hc | replace hc := eq_of_beq hc | skip))
      | refine s_index1 tabOk rfl rfl rfl rfl (by omega) (by omega) ?_)
  refine s_call rfl rfl rfl rfl ent65 (c_impl_within _ _ _) ?_
  rintro _ _ ⟨rfl, rfl⟩
  repeat' (first
      | refine s_pure tabOk rfl rfl rfl rfl ?_
      | refine aops_nil ?_
      | refine thn_normal ?_
      | refine aw_seq ?_
      | refine aw_reg ?_
      | refine s_pass rfl rfl rfl ?_
      | refine s_len tabOk rfl rfl rfl rfl ?_
      | refine aw_true rfl ?_
      | refine aw_false rfl ?_
      | refine aw_block ?_
      | refine aw_skip ?_
      | refine aw_exit ?_
      | refine blk_exit ?_
      | refine blk_exit_other rfl ?_
      | refine blk_normal ?_
      | refine thn_exit ?_
      | refine thn_ret ?_
      | refine blk_ret ?_
      | refine rnd_ret ?_
      | refine rnd_exit ?_
      | refine aw_ret ?_
      | refine s_arith tabOk rfl rfl rfl rfl (by simp only [InR]; omega) ?_
      | ((fail_if_success refine s_told rfl rfl ?_); refine s_part rfl rfl rfl ?_ ?_ <;> intro hc <;> (first | replace hc := of_decide_eq_true hc | replace hc := of_decide_eq_false hc | replace hc := eq_of_beq hc | skip))
      | (refine aw_if rfl ?_ ?_ <;> intro hc <;> (first | replace hc := of_decide_eq_true hc | replace hc := of_decide_eq_false hc | replace hc := eq_of_beq hc | skip))
      | refine s_index1 tabOk rfl rfl rfl rfl (by omega) (by omega) ?_)
  exact retK_ret tabOk (congrArg Array.toList Try.results61) (rv_tmp rfl rfl rv_nil) ⟨by simp only [retV]; congr 2; exact decide_eq_decide.2 (by omega), rfl⟩
end
end Go.Proofs.Ytmplincflbhmiaa
namespace Go.Proofs.Ytmplincflbhmiaa
set_option linter.unusedSimpArgs false
set_option linter.unusedVariables false
open Go Cn Go.RowKit
section
variable {B : Nat} {W : World}
theorem SlF.form {v : Value} {xs : List Nat} (hv : SlF W v xs) : ∃ a c, v = .slice a xs.length c := by
  rcases hv with ⟨rfl, rfl⟩ | ⟨b, off, c, rfl, hr⟩
  · exact ⟨_, _, rfl⟩
  · exact ⟨_, _, rfl⟩
theorem SlF.read {a : Option Addr} {n c : Nat} {xs : List Nat} (hv : SlF W (.slice a n c) xs) (h : 0 < xs.length) : ∃ b off, a = some ⟨b, off, none⟩ ∧ RdF W b off xs := by
  rcases hv with ⟨h1, rfl⟩ | ⟨b, off, c, h1, hr⟩
  · simp at h
  · cases h1; exact ⟨_, _, rfl, hr⟩
end
end Go.Proofs.Ytmplincflbhmiaa
namespace Go.Proofs.Ytmplincflbhmiaa
set_option linter.unusedSimpArgs false
set_option linter.unusedVariables false
open Go Cn Go.RowKit
/-- a list of 32-bit numbers that the call owns -/
def OwnF (W : World) (base : Nat) (v : Value) (xs : List Nat) : Prop := W.ownsRow base 32 1 v xs.length (xs.map (.float .f32)) ∧ CanF xs
theorem OwnF.sl {W : World} {base : Nat} {v : Value} {xs : List Nat} (h : OwnF W base v xs) : SlF W v xs := by
  obtain ⟨⟨-, h1⟩, h2⟩ := h
  rcases h1 with ⟨rfl, h0⟩ | ⟨g, cap, cur, rfl, -, hh, -, -, -, hx⟩
  · exact .inl ⟨rfl, List.length_eq_zero_iff.1 h0⟩
  · refine .inr ⟨g, 0, cap, rfl, rdF_block hh h2 fun i hi => ?_⟩
    have : (cur.toList.take (xs.length * 1))[i]? = some (.float .f32 (xs.getD i 0)) := by
      rw [hx]; simp [List.getD_eq_getElem?_getD, hi]
    rw [List.getElem?_take, if_pos (by omega)] at this
    simpa using this
theorem OwnF.nil (W : World) (base : Nat) : OwnF W base (.slice none 0 0) [] := ⟨World.ownsRow_nil _ _ _ _, fun i hi => by simp at hi⟩
theorem OwnF.new {W : World} {base : Nat} (h : base ≤ W.heap.size) : OwnF (W.alloc (.cells #[] 32)) base (.slice (some ⟨W.heap.size, 0, none⟩) 0 0) [] :=
  ⟨⟨rfl, .inr ⟨W.heap.size, 0, #[], rfl, h, heap_alloc_new W _, by simp, by decide, rfl, rfl⟩⟩, fun i hi => by simp at hi⟩
theorem OwnF.push {W : World} {base : Nat} {v : Value} {xs : List Nat} {x : Nat} (hx : cb .f32 x = x) (hc : CanF xs) (h : W.ownsRow base 32 1 v (xs.length + 1) (xs.map (.float .f32) ++ ([Value.float .f32 x]).map cl)) : OwnF W base v (xs ++ [x]) := by
  refine ⟨?_, ?_⟩
  · simp only [List.map_cons, List.map_nil, cl, hx] at h
    simpa using h
  · intro i hi
    by_cases h1 : i < xs.length
    · have := hc i h1
      simpa [List.getD_eq_getElem?_getD, List.getElem?_append_left h1, h1] using this
    · have h2 : i = xs.length := by simp at hi; omega
      subst h2
      simpa [List.getD_eq_getElem?_getD] using hx
theorem RdF.under {W : World} {b off : Nat} {xs : List Nat} (h : RdF W b off xs) {i : Nat} (hi : i < xs.length) : ∃ y, (∀ W', Below W.heap.size W W' → W'.cell? ⟨b, off + i, none⟩ = some (.float .f32 y)) ∧ cb .f32 y = xs.getD i 0 := by
  obtain ⟨y, h1, h2⟩ := h i hi
  exact ⟨y, fun W' hb => by rw [hb.cell (World.block_lt_of_cell? _ _ h1)]; exact h1, h2⟩
theorem cb_fop (op : BinOp) (k : FloatKind) (x y : Nat) : cb k (fop op k x y) = fop op k x y := by
  unfold fop
  cases floatBits op k x y with
  | none => simp [cb_qnan]
  | some r => simp [cb_cb]
section push
variable {P : Program} {N B : Nat} {E : Env} {W : World} {ops : Array Oper} {K : Exit → Env → World → Prop} {D : World → Prop} {T : Tab} {i : Nat} {rest : List Nat} {d : Nat} {op : Op} {ty : TypeId} {pos : String} {aft : Array Edge} {g : Option (Nat × Bool)}
end push
section
variable {B : Nat} {W : World}
end
end Go.Proofs.Ytmplincflbhmiaa
namespace Go.Proofs.Ytmplincflbhmiaa
set_option linter.unusedSimpArgs false
set_option linter.unusedVariables false
open Go Cn Go.ChangeShapes Go.WideShapes Go.ChangeAt Go.RowKit

section
variable {H : Type} {enc : TypeId × Value → H} {P : Program} {W W' : World}
/-- words of 32 bits -/
def Bd (xs : List Nat) : Prop := ∀ x ∈ xs, x < 4294967296
theorem cb_lt {x : Nat} (h : x < 4294967296) : cb .f32 x < 4294967296 := by
  unfold cb
  split
  · decide
  · exact h
end
end Go.Proofs.Ytmplincflbhmiaa
namespace Go.Proofs.Ytmplincflbhmiaa
set_option linter.unusedSimpArgs false
set_option linter.unusedVariables false
open Go Cn Go.RowKit
def recC (s : ByteArray) (st sp : Int) (sv : Value) : List Value := [.string s, .int .i64 st, .int .i64 sp, sv]
/-- a record by what it says -/
def RecA (W : World) (v : Value) (s : ByteArray) (st sp : Int) (xs : List Nat) : Prop := ∃ a c, v = .agg #[.string s, .int .i64 st, .int .i64 sp, .slice a xs.length c] ∧ SlF W (.slice a xs.length c) xs
theorem RecA.below {W W' : World} {v : Value} {s : ByteArray} {st sp : Int} {xs : List Nat} (h : RecA W v s st sp xs) (hb : Below W.heap.size W W') : RecA W' v s st sp xs := by
  obtain ⟨a, c, h1, h2⟩ := h
  exact ⟨a, c, h1, h2.below hb⟩
section
variable {B : Nat} {W : World}
theorem SlF.same {W W' : World} {b : Nat} {v : Value} {xs : List Nat} (h : SlF W v xs) (s : Same b W W') (hne : ∀ a n c, v = .slice (some a) n c → a.block ≠ b) : SlF W' v xs := by
  rcases h with h | ⟨b', off, c, h1, h2⟩
  · exact .inl h
  · refine .inr ⟨b', off, c, h1, fun i hi => ?_⟩
    obtain ⟨y, h3, h4⟩ := h2 i hi
    have hq : b' ≠ b := hne _ _ _ h1
    exact ⟨y, by rw [s.cell (a := ⟨b', off + i, none⟩) hq]; exact h3, h4⟩
theorem zero_rec : (zerosOf (.agg #[.string ⟨#[]⟩, .int .i64 0, .int .i64 0, .slice none 0 0])).toList = recC ⟨#[]⟩ 0 0 (.slice none 0 0) := by
  simp [zerosOf, Value.cells, cl, recC]
/-! ### names, good records -/
@[irreducible] def letter (s : ByteArray) (i : Nat) : Bool := !(decide (bt s i < 97) || decide (bt s i > 122))
@[irreducible] def nameOk (s : ByteArray) : Bool := (List.range s.size).all (letter s) && (decide (1 ≤ s.size) && decide (s.size ≤ 8))
theorem letter_no {s : ByteArray} {i : Nat} (h : bt s i < 97 ∨ bt s i > 122) : letter s i = false := by
  unfold letter; simpa using by omega
theorem letter_yes {s : ByteArray} {i : Nat} (h : ¬ bt s i < 97) (h' : ¬ bt s i > 122) : letter s i = true := by
  unfold letter; simpa using by omega
theorem nameOk_no {s : ByteArray} {i : Nat} (hi : i < s.size) (h : letter s i = false) : nameOk s = false := by
  unfold nameOk
  have : (List.range s.size).all (letter s) = false := by
    rw [List.all_eq_false]
    exact ⟨i, by simpa using hi, by simp [h]⟩
  rw [this]; rfl
theorem nameOk_all {s : ByteArray} (h : ∀ i, i < s.size → letter s i = true) : nameOk s = (decide (1 ≤ s.size) && decide (s.size ≤ 8)) := by
  unfold nameOk
  have : (List.range s.size).all (letter s) = true := by
    rw [List.all_eq_true]
    intro i hi
    exact h i (by simpa using hi)
  rw [this]; rfl
theorem c_impl_IsName (s : ByteArray) (hs : s.size ≤ 1048576) : ACalls Try.prog B 64 [.string s] W (fun r W' => r = .bool (nameOk s) ∧ W' = W) := by
  refine acalls_of Try.func64 rfl Try.ntmps64 (Nat.le_of_ble_eq_true rfl) ?_
  repeat' (first
      | refine s_pure tabOk rfl rfl rfl rfl ?_
      | refine aops_nil ?_
      | refine thn_normal ?_
      | refine aw_seq ?_
      | refine aw_reg ?_
      | refine s_pass rfl rfl rfl ?_
      | refine s_len tabOk rfl rfl rfl rfl ?_
      | refine aw_true rfl ?_
      | refine aw_false rfl ?_
      | refine aw_block ?_
      | refine aw_skip ?_
      | refine aw_exit ?_
      | refine blk_exit ?_
      | refine blk_exit_other rfl ?_
      | refine blk_normal ?_
      | refine thn_exit ?_
      | refine thn_ret ?_
      | refine blk_ret ?_
      | refine rnd_ret ?_
      | refine rnd_exit ?_
      | refine aw_ret ?_
      | refine s_arith tabOk rfl rfl rfl rfl (by simp only [InR]; omega) ?_
      | ((fail_if_success refine s_told rfl rfl ?_); refine s_part rfl rfl rfl ?_ ?_ <;> intro hc <;> (first | replace hc := of_decide_eq_true hc | replace hc := of_decide_eq_false hc | replace hc := eq_of_beq hc | skip))
      | (refine aw_if rfl ?_ ?_ <;> intro hc <;> (first | replace hc := of_decide_eq_true hc | replace hc := of_decide_eq_false hc | replace hc := eq_of_beq hc | skip))
      | refine s_index1 tabOk rfl rfl rfl rfl (by omega) (by omega) ?_)
  refine aw_loop (fun i : Nat => [(6, .int .i64 i), (5, .int .i64 s.size), (0, .string s)]) (fun _ => W) (fun i => i ≤ s.size ∧ ∀ j, j < i → letter s j = true) (fun i => s.size - i) 0 ⟨by omega, by omega⟩ (by repeat (first | exact less_nil | refine less_cons rfl ?_)) rfl ?_
  rintro i ⟨hi, ha⟩
  repeat' (first
      | refine s_pure tabOk rfl rfl rfl rfl ?_
      | refine aops_nil ?_
      | refine thn_normal ?_
      | refine aw_seq ?_
      | refine aw_reg ?_
      | refine s_pass rfl rfl rfl ?_
      | refine s_len tabOk rfl rfl rfl rfl ?_
      | refine aw_true rfl ?_
      | refine aw_false rfl ?_
      | refine aw_block ?_
      | refine aw_skip ?_
      | refine aw_exit ?_
      | refine blk_exit ?_
      | refine blk_exit_other rfl ?_
      | refine blk_normal ?_
      | refine thn_exit ?_
      | refine thn_ret ?_
      | refine blk_ret ?_
      | refine rnd_ret ?_
      | refine rnd_exit ?_
      | refine aw_ret ?_
      | refine s_arith tabOk rfl rfl rfl rfl (by simp only [InR]; omega) ?_
      | ((fail_if_success refine s_told rfl rfl ?_); refine s_part rfl rfl rfl ?_ ?_ <;> intro hc <;> (first | replace hc := of_decide_eq_true hc | replace hc := of_decide_eq_false hc | replace hc := eq_of_beq hc | skip))
      | (refine aw_if rfl ?_ ?_ <;> intro hc <;> (first | replace hc := of_decide_eq_true hc | replace hc := of_decide_eq_false hc | replace hc := eq_of_beq hc | skip))
      | refine s_index1 tabOk rfl rfl rfl rfl (by omega) (by omega) ?_)
  · refine s_byte tabOk rfl rfl rfl rfl (by omega) (by omega) ?_
    repeat' (first
      | refine s_pure tabOk rfl rfl rfl rfl ?_
      | refine aops_nil ?_
      | refine thn_normal ?_
      | refine aw_seq ?_
      | refine aw_reg ?_
      | refine s_pass rfl rfl rfl ?_
      | refine s_len tabOk rfl rfl rfl rfl ?_
      | refine aw_true rfl ?_
      | refine aw_false rfl ?_
      | refine aw_block ?_
      | refine aw_skip ?_
      | refine aw_exit ?_
      | refine blk_exit ?_
      | refine blk_exit_other rfl ?_
      | refine blk_normal ?_
      | refine thn_exit ?_
      | refine thn_ret ?_
      | refine blk_ret ?_
      | refine rnd_ret ?_
      | refine rnd_exit ?_
      | refine aw_ret ?_
      | refine s_arith tabOk rfl rfl rfl rfl (by simp only [InR]; omega) ?_
      | ((fail_if_success refine s_told rfl rfl ?_); refine s_part rfl rfl rfl ?_ ?_ <;> intro hc <;> (first | replace hc := of_decide_eq_true hc | replace hc := of_decide_eq_false hc | replace hc := eq_of_beq hc | skip))
      | (refine aw_if rfl ?_ ?_ <;> intro hc <;> (first | replace hc := of_decide_eq_true hc | replace hc := of_decide_eq_false hc | replace hc := eq_of_beq hc | skip))
      | refine s_index1 tabOk rfl rfl rfl rfl (by omega) (by omega) ?_)
    · refine retK_ret tabOk (congrArg Array.toList Try.results64) (rv_tmp rfl rfl rv_nil) ⟨?_, rfl⟩
      rw [nameOk_no (i := i) (by omega) (letter_no (.inl (by simp at hc; omega)))]; rfl
    refine s_byte tabOk rfl rfl rfl rfl (by omega) (by omega) ?_
    repeat' (first
      | refine s_pure tabOk rfl rfl rfl rfl ?_
      | refine aops_nil ?_
      | refine thn_normal ?_
      | refine aw_seq ?_
      | refine aw_reg ?_
      | refine s_pass rfl rfl rfl ?_
      | refine s_len tabOk rfl rfl rfl rfl ?_
      | refine aw_true rfl ?_
      | refine aw_false rfl ?_
      | refine aw_block ?_
      | refine aw_skip ?_
      | refine aw_exit ?_
      | refine blk_exit ?_
      | refine blk_exit_other rfl ?_
      | refine blk_normal ?_
      | refine thn_exit ?_
      | refine thn_ret ?_
      | refine blk_ret ?_
      | refine rnd_ret ?_
      | refine rnd_exit ?_
      | refine aw_ret ?_
      | refine s_arith tabOk rfl rfl rfl rfl (by simp only [InR]; omega) ?_
      | ((fail_if_success refine s_told rfl rfl ?_); refine s_part rfl rfl rfl ?_ ?_ <;> intro hc <;> (first | replace hc := of_decide_eq_true hc | replace hc := of_decide_eq_false hc | replace hc := eq_of_beq hc | skip))
      | (refine aw_if rfl ?_ ?_ <;> intro hc <;> (first | replace hc := of_decide_eq_true hc | replace hc := of_decide_eq_false hc | replace hc := eq_of_beq hc | skip))
      | refine s_index1 tabOk rfl rfl rfl rfl (by omega) (by omega) ?_)
    · refine retK_ret tabOk (congrArg Array.toList Try.results64) (rv_tmp rfl rfl rv_nil) ⟨?_, rfl⟩
      rw [nameOk_no (i := i) (by omega) (letter_no (.inr (by simp at hc; omega)))]; rfl
    · rename_i hlo
      refine rnd_next (i + 1) ⟨by omega, ?_⟩ (by omega) (by repeat (first | exact less_nil | refine less_cons rfl ?_)) rfl
      intro j hj
      by_cases e : j = i
      · subst e; exact letter_yes (by simp at hlo; omega) (by simp at hc; omega)
      · exact ha j (by omega)
  all_goals
    refine retK_ret tabOk (congrArg Array.toList Try.results64) (rv_tmp rfl rfl rv_nil) ⟨?_, rfl⟩
    rw [nameOk_all (fun j hj => ha j (by omega))]
    simp only [retV]
    congr 1
  · rw [decide_eq_true (show 1 ≤ s.size by omega), Bool.true_and]; exact decide_eq_decide.2 (by omega)
  · rw [decide_eq_false (show ¬ 1 ≤ s.size by omega), Bool.false_and]
@[irreducible] def recOk (s : ByteArray) (st sp : Int) (n : Nat) : Bool := nameOk s && (decide (0 ≤ st) && decide (st ≤ 4294967295)) && (decide (1 ≤ sp) && decide (sp ≤ 65535)) && (decide (1 ≤ n) && decide (n ≤ 128))
theorem c_impl_ValidRecord {v : Value} {s : ByteArray} {st sp : Int} {xs : List Nat} (hv : RecA W v s st sp xs) (hs : s.size ≤ 1048576) :
    ACalls Try.prog B 25 [v] W (fun r W' => r = .bool (recOk s st sp xs.length) ∧ Below W.heap.size W W') := by
  obtain ⟨a, c, rfl, hx⟩ := hv
  refine acalls_of Try.func25 rfl Try.ntmps25 (Nat.le_of_ble_eq_true rfl) ?_
  repeat' (first
      | refine s_pure tabOk rfl rfl rfl rfl ?_
      | refine aops_nil ?_
      | refine thn_normal ?_
      | refine aw_seq ?_
      | refine aw_reg ?_
      | refine s_pass rfl rfl rfl ?_
      | refine s_len tabOk rfl rfl rfl rfl ?_
      | refine aw_true rfl ?_
      | refine aw_false rfl ?_
      | refine aw_block ?_
      | refine aw_skip ?_
      | refine aw_exit ?_
      | refine blk_exit ?_
      | refine blk_exit_other rfl ?_
      | refine blk_normal ?_
      | refine thn_exit ?_
      | refine thn_ret ?_
      | refine blk_ret ?_
      | refine rnd_ret ?_
      | refine rnd_exit ?_
      | refine aw_ret ?_
      | refine s_arith tabOk rfl rfl rfl rfl (by simp only [InR]; omega) ?_
      | ((fail_if_success refine s_told rfl rfl ?_); refine s_part rfl rfl rfl ?_ ?_ <;> intro hc <;> (first | replace hc := of_decide_eq_true hc | replace hc := of_decide_eq_false hc | replace hc := eq_of_beq hc | skip))
      | (refine aw_if rfl ?_ ?_ <;> intro hc <;> (first | replace hc := of_decide_eq_true hc | replace hc := of_decide_eq_false hc | replace hc := eq_of_beq hc | skip))
      | refine s_index1 tabOk rfl rfl rfl rfl (by omega) (by omega) ?_)
  refine k_box rfl rfl rfl rfl rfl rfl rfl ?_
  intro b W1 _ f1 g1
  repeat' (first
      | refine s_pure tabOk rfl rfl rfl rfl ?_
      | refine aops_nil ?_
      | refine thn_normal ?_
      | refine aw_seq ?_
      | refine aw_reg ?_
      | refine s_pass rfl rfl rfl ?_
      | refine s_len tabOk rfl rfl rfl rfl ?_
      | refine aw_true rfl ?_
      | refine aw_false rfl ?_
      | refine aw_block ?_
      | refine aw_skip ?_
      | refine aw_exit ?_
      | refine blk_exit ?_
      | refine blk_exit_other rfl ?_
      | refine blk_normal ?_
      | refine thn_exit ?_
      | refine thn_ret ?_
      | refine blk_ret ?_
      | refine rnd_ret ?_
      | refine rnd_exit ?_
      | refine aw_ret ?_
      | refine s_arith tabOk rfl rfl rfl rfl (by simp only [InR]; omega) ?_
      | ((fail_if_success refine s_told rfl rfl ?_); refine s_part rfl rfl rfl ?_ ?_ <;> intro hc <;> (first | replace hc := of_decide_eq_true hc | replace hc := of_decide_eq_false hc | replace hc := eq_of_beq hc | skip))
      | (refine aw_if rfl ?_ ?_ <;> intro hc <;> (first | replace hc := of_decide_eq_true hc | replace hc := of_decide_eq_false hc | replace hc := eq_of_beq hc | skip))
      | refine s_index1 tabOk rfl rfl rfl rfl (by omega) (by omega) ?_)
  refine k_load tabOk rfl rfl rfl rfl f1 rfl rfl ?_
  repeat' (first
      | refine s_pure tabOk rfl rfl rfl rfl ?_
      | refine aops_nil ?_
      | refine thn_normal ?_
      | refine aw_seq ?_
      | refine aw_reg ?_
      | refine s_pass rfl rfl rfl ?_
      | refine s_len tabOk rfl rfl rfl rfl ?_
      | refine aw_true rfl ?_
      | refine aw_false rfl ?_
      | refine aw_block ?_
      | refine aw_skip ?_
      | refine aw_exit ?_
      | refine blk_exit ?_
      | refine blk_exit_other rfl ?_
      | refine blk_normal ?_
      | refine thn_exit ?_
      | refine thn_ret ?_
      | refine blk_ret ?_
      | refine rnd_ret ?_
      | refine rnd_exit ?_
      | refine aw_ret ?_
      | refine s_arith tabOk rfl rfl rfl rfl (by simp only [InR]; omega) ?_
      | ((fail_if_success refine s_told rfl rfl ?_); refine s_part rfl rfl rfl ?_ ?_ <;> intro hc <;> (first | replace hc := of_decide_eq_true hc | replace hc := of_decide_eq_false hc | replace hc := eq_of_beq hc | skip))
      | (refine aw_if rfl ?_ ?_ <;> intro hc <;> (first | replace hc := of_decide_eq_true hc | replace hc := of_decide_eq_false hc | replace hc := eq_of_beq hc | skip))
      | refine s_index1 tabOk rfl rfl rfl rfl (by omega) (by omega) ?_)
  refine s_call rfl rfl rfl rfl ent64 (c_impl_IsName _ hs) ?_
  rintro _ W1 ⟨rfl, rfl⟩
  repeat' (first
      | refine s_pure tabOk rfl rfl rfl rfl ?_
      | refine aops_nil ?_
      | refine thn_normal ?_
      | refine aw_seq ?_
      | refine aw_reg ?_
      | refine s_pass rfl rfl rfl ?_
      | refine s_len tabOk rfl rfl rfl rfl ?_
      | refine aw_true rfl ?_
      | refine aw_false rfl ?_
      | refine aw_block ?_
      | refine aw_skip ?_
      | refine aw_exit ?_
      | refine blk_exit ?_
      | refine blk_exit_other rfl ?_
      | refine blk_normal ?_
      | refine thn_exit ?_
      | refine thn_ret ?_
      | refine blk_ret ?_
      | refine rnd_ret ?_
      | refine rnd_exit ?_
      | refine aw_ret ?_
      | refine s_arith tabOk rfl rfl rfl rfl (by simp only [InR]; omega) ?_
      | ((fail_if_success refine s_told rfl rfl ?_); refine s_part rfl rfl rfl ?_ ?_ <;> intro hc <;> (first | replace hc := of_decide_eq_true hc | replace hc := of_decide_eq_false hc | replace hc := eq_of_beq hc | skip))
      | (refine aw_if rfl ?_ ?_ <;> intro hc <;> (first | replace hc := of_decide_eq_true hc | replace hc := of_decide_eq_false hc | replace hc := eq_of_beq hc | skip))
      | refine s_index1 tabOk rfl rfl rfl rfl (by omega) (by omega) ?_)
  · refine k_load tabOk rfl rfl rfl rfl f1 rfl rfl ?_
    repeat' (first
      | refine s_pure tabOk rfl rfl rfl rfl ?_
      | refine aops_nil ?_
      | refine thn_normal ?_
      | refine aw_seq ?_
      | refine aw_reg ?_
      | refine s_pass rfl rfl rfl ?_
      | refine s_len tabOk rfl rfl rfl rfl ?_
      | refine aw_true rfl ?_
      | refine aw_false rfl ?_
      | refine aw_block ?_
      | refine aw_skip ?_
      | refine aw_exit ?_
      | refine blk_exit ?_
      | refine blk_exit_other rfl ?_
      | refine blk_normal ?_
      | refine thn_exit ?_
      | refine thn_ret ?_
      | refine blk_ret ?_
      | refine rnd_ret ?_
      | refine rnd_exit ?_
      | refine aw_ret ?_
      | refine s_arith tabOk rfl rfl rfl rfl (by simp only [InR]; omega) ?_
      | ((fail_if_success refine s_told rfl rfl ?_); refine s_part rfl rfl rfl ?_ ?_ <;> intro hc <;> (first | replace hc := of_decide_eq_true hc | replace hc := of_decide_eq_false hc | replace hc := eq_of_beq hc | skip))
      | (refine aw_if rfl ?_ ?_ <;> intro hc <;> (first | replace hc := of_decide_eq_true hc | replace hc := of_decide_eq_false hc | replace hc := eq_of_beq hc | skip))
      | refine s_index1 tabOk rfl rfl rfl rfl (by omega) (by omega) ?_)
    refine s_call rfl rfl rfl rfl ent65 (c_impl_within _ _ _) ?_
    rintro _ W1 ⟨rfl, rfl⟩
    repeat' (first
      | refine s_pure tabOk rfl rfl rfl rfl ?_
      | refine aops_nil ?_
      | refine thn_normal ?_
      | refine aw_seq ?_
      | refine aw_reg ?_
      | refine s_pass rfl rfl rfl ?_
      | refine s_len tabOk rfl rfl rfl rfl ?_
      | refine aw_true rfl ?_
      | refine aw_false rfl ?_
      | refine aw_block ?_
      | refine aw_skip ?_
      | refine aw_exit ?_
      | refine blk_exit ?_
      | refine blk_exit_other rfl ?_
      | refine blk_normal ?_
      | refine thn_exit ?_
      | refine thn_ret ?_
      | refine blk_ret ?_
      | refine rnd_ret ?_
      | refine rnd_exit ?_
      | refine aw_ret ?_
      | refine s_arith tabOk rfl rfl rfl rfl (by simp only [InR]; omega) ?_
      | ((fail_if_success refine s_told rfl rfl ?_); refine s_part rfl rfl rfl ?_ ?_ <;> intro hc <;> (first | replace hc := of_decide_eq_true hc | replace hc := of_decide_eq_false hc | replace hc := eq_of_beq hc | skip))
      | (refine aw_if rfl ?_ ?_ <;> intro hc <;> (first | replace hc := of_decide_eq_true hc | replace hc := of_decide_eq_false hc | replace hc := eq_of_beq hc | skip))
      | refine s_index1 tabOk rfl rfl rfl rfl (by omega) (by omega) ?_)
    · refine k_load tabOk rfl rfl rfl rfl f1 rfl rfl ?_
      repeat' (first
      | refine s_pure tabOk rfl rfl rfl rfl ?_
      | refine aops_nil ?_
      | refine thn_normal ?_
      | refine aw_seq ?_
      | refine aw_reg ?_
      | refine s_pass rfl rfl rfl ?_
      | refine s_len tabOk rfl rfl rfl rfl ?_
      | refine aw_true rfl ?_
      | refine aw_false rfl ?_
      | refine aw_block ?_
      | refine aw_skip ?_
      | refine aw_exit ?_
      | refine blk_exit ?_
      | refine blk_exit_other rfl ?_
      | refine blk_normal ?_
      | refine thn_exit ?_
      | refine thn_ret ?_
      | refine blk_ret ?_
      | refine rnd_ret ?_
      | refine rnd_exit ?_
      | refine aw_ret ?_
      | refine s_arith tabOk rfl rfl rfl rfl (by simp only [InR]; omega) ?_
      | ((fail_if_success refine s_told rfl rfl ?_); refine s_part rfl rfl rfl ?_ ?_ <;> intro hc <;> (first | replace hc := of_decide_eq_true hc | replace hc := of_decide_eq_false hc | replace hc := eq_of_beq hc | skip))
      | (refine aw_if rfl ?_ ?_ <;> intro hc <;> (first | replace hc := of_decide_eq_true hc | replace hc := of_decide_eq_false hc | replace hc := eq_of_beq hc | skip))
      | refine s_index1 tabOk rfl rfl rfl rfl (by omega) (by omega) ?_)
      refine s_call rfl rfl rfl rfl ent65 (c_impl_within _ _ _) ?_
      rintro _ W1 ⟨rfl, rfl⟩
      repeat' (first
      | refine s_pure tabOk rfl rfl rfl rfl ?_
      | refine aops_nil ?_
      | refine thn_normal ?_
      | refine aw_seq ?_
      | refine aw_reg ?_
      | refine s_pass rfl rfl rfl ?_
      | refine s_len tabOk rfl rfl rfl rfl ?_
      | refine aw_true rfl ?_
      | refine aw_false rfl ?_
      | refine aw_block ?_
      | refine aw_skip ?_
      | refine aw_exit ?_
      | refine blk_exit ?_
      | refine blk_exit_other rfl ?_
      | refine blk_normal ?_
      | refine thn_exit ?_
      | refine thn_ret ?_
      | refine blk_ret ?_
      | refine rnd_ret ?_
      | refine rnd_exit ?_
      | refine aw_ret ?_
      | refine s_arith tabOk rfl rfl rfl rfl (by simp only [InR]; omega) ?_
      | ((fail_if_success refine s_told rfl rfl ?_); refine s_part rfl rfl rfl ?_ ?_ <;> intro hc <;> (first | replace hc := of_decide_eq_true hc | replace hc := of_decide_eq_false hc | replace hc := eq_of_beq hc | skip))
      | (refine aw_if rfl ?_ ?_ <;> intro hc <;> (first | replace hc := of_decide_eq_true hc | replace hc := of_decide_eq_false hc | replace hc := eq_of_beq hc | skip))
      | refine s_index1 tabOk rfl rfl rfl rfl (by omega) (by omega) ?_)
      · refine k_load tabOk rfl rfl rfl rfl f1 rfl rfl ?_
        repeat' (first
      | refine s_pure tabOk rfl rfl rfl rfl ?_
      | refine aops_nil ?_
      | refine thn_normal ?_
      | refine aw_seq ?_
      | refine aw_reg ?_
      | refine s_pass rfl rfl rfl ?_
      | refine s_len tabOk rfl rfl rfl rfl ?_
      | refine aw_true rfl ?_
      | refine aw_false rfl ?_
      | refine aw_block ?_
      | refine aw_skip ?_
      | refine aw_exit ?_
      | refine blk_exit ?_
      | refine blk_exit_other rfl ?_
      | refine blk_normal ?_
      | refine thn_exit ?_
      | refine thn_ret ?_
      | refine blk_ret ?_
      | refine rnd_ret ?_
      | refine rnd_exit ?_
      | refine aw_ret ?_
      | refine s_arith tabOk rfl rfl rfl rfl (by simp only [InR]; omega) ?_
      | ((fail_if_success refine s_told rfl rfl ?_); refine s_part rfl rfl rfl ?_ ?_ <;> intro hc <;> (first | replace hc := of_decide_eq_true hc | replace hc := of_decide_eq_false hc | replace hc := eq_of_beq hc | skip))
      | (refine aw_if rfl ?_ ?_ <;> intro hc <;> (first | replace hc := of_decide_eq_true hc | replace hc := of_decide_eq_false hc | replace hc := eq_of_beq hc | skip))
      | refine s_index1 tabOk rfl rfl rfl rfl (by omega) (by omega) ?_)
        refine s_call rfl rfl rfl rfl ent61 (c_impl_isMany (hx.below g1) _) ?_
        rintro _ W1 ⟨rfl, rfl⟩
        repeat' (first
      | refine s_pure tabOk rfl rfl rfl rfl ?_
      | refine aops_nil ?_
      | refine thn_normal ?_
      | refine aw_seq ?_
      | refine aw_reg ?_
      | refine s_pass rfl rfl rfl ?_
      | refine s_len tabOk rfl rfl rfl rfl ?_
      | refine aw_true rfl ?_
      | refine aw_false rfl ?_
      | refine aw_block ?_
      | refine aw_skip ?_
      | refine aw_exit ?_
      | refine blk_exit ?_
      | refine blk_exit_other rfl ?_
      | refine blk_normal ?_
      | refine thn_exit ?_
      | refine thn_ret ?_
      | refine blk_ret ?_
      | refine rnd_ret ?_
      | refine rnd_exit ?_
      | refine aw_ret ?_
      | refine s_arith tabOk rfl rfl rfl rfl (by simp only [InR]; omega) ?_
      | ((fail_if_success refine s_told rfl rfl ?_); refine s_part rfl rfl rfl ?_ ?_ <;> intro hc <;> (first | replace hc := of_decide_eq_true hc | replace hc := of_decide_eq_false hc | replace hc := eq_of_beq hc | skip))
      | (refine aw_if rfl ?_ ?_ <;> intro hc <;> (first | replace hc := of_decide_eq_true hc | replace hc := of_decide_eq_false hc | replace hc := eq_of_beq hc | skip))
      | refine s_index1 tabOk rfl rfl rfl rfl (by omega) (by omega) ?_)
        refine retK_ret tabOk (congrArg Array.toList Try.results25) (rv_tmp rfl rfl rv_nil) ⟨?_, g1⟩
        unfold recOk
        simp_all [retV]
        all_goals (congr 1; exact decide_eq_decide.2 (by omega))
      · refine retK_ret tabOk (congrArg Array.toList Try.results25) (rv_tmp rfl rfl rv_nil) ⟨?_, g1⟩
        unfold recOk
        simp only [retV]
        simp_all
        all_goals omega
    · refine retK_ret tabOk (congrArg Array.toList Try.results25) (rv_tmp rfl rfl rv_nil) ⟨?_, g1⟩
      unfold recOk
      simp only [retV]
      simp_all
      all_goals omega
  · refine retK_ret tabOk (congrArg Array.toList Try.results25) (rv_tmp rfl rfl rv_nil) ⟨?_, g1⟩
    unfold recOk
    simp only [retV]
    simp_all
    all_goals omega
end
end Go.Proofs.Ytmplincflbhmiaa
namespace Go.Proofs.Ytmplincflbhmiaa
set_option linter.unusedSimpArgs false
set_option linter.unusedVariables false
open Go Cn Go.RowKit
/-! ### numbers -/
theorem and32 (x : Int) : bits .and .i64 x 4294967295 = x % 4294967296 := by
  have h2 : bits .and .i64 x 4294967295 = IntKind.i64.wrap (((BitVec.ofInt 64 x &&& BitVec.ofInt 64 4294967295).toNat : Nat) : Int) := rfl
  rw [h2]
  have h1 : (BitVec.ofInt 64 x &&& BitVec.ofInt 64 4294967295).toNat = (x % 4294967296).toNat := by
    rw [BitVec.toNat_and, BitVec.toNat_ofInt, BitVec.toNat_ofInt]
    have : ((4294967295 : Int) % ((2 ^ 64 : Nat) : Int)).toNat = 2 ^ 32 - 1 := by decide
    rw [this, Nat.and_two_pow_sub_one_eq_mod]
    omega
  rw [h1]
  rw [wrap_inR (by simp only [InR]; omega)]
  omega
@[irreducible] def wordOf (x : Nat) : Int := if fcmp .neq .f32 x x then 2143289344 else x
theorem wordOf_range {x : Nat} (h : x < 4294967296) : 0 ≤ wordOf x ∧ wordOf x < 4294967296 := by
  unfold wordOf
  split <;> omega
@[irreducible] def zig (b p : Int) : Nat := (if (b - p + 4294967296) % 4294967296 ≥ 2147483648 then -2 * ((b - p + 4294967296) % 4294967296 - 4294967296) - 1 else 2 * ((b - p + 4294967296) % 4294967296)).toNat
theorem zig_hi {b p : Int} (h : (b - p + 4294967296) % 4294967296 ≥ 2147483648) : (zig b p : Int) = -2 * ((b - p + 4294967296) % 4294967296 - 4294967296) - 1 := by
  unfold zig; rw [if_pos h]; omega
theorem zig_lo {b p : Int} (h : ¬ (b - p + 4294967296) % 4294967296 ≥ 2147483648) : (zig b p : Int) = 2 * ((b - p + 4294967296) % 4294967296) := by
  unfold zig; rw [if_neg h]; omega
theorem zig_lt (b p : Int) : zig b p < 4294967296 := by
  by_cases h : (b - p + 4294967296) % 4294967296 ≥ 2147483648
  · have := zig_hi h; omega
  · have := zig_lo h; omega
def byts (z : Nat) : List Int := if z < 128 then [(z : Int)] else ((z % 128 + 128 : Nat) : Int) :: byts (z / 128)
termination_by z
theorem byts_lo {z : Nat} (h : z < 128) : byts z = [(z : Int)] := by rw [byts, if_pos h]
theorem byts_hi {z : Nat} (h : ¬ z < 128) : byts z = ((z % 128 + 128 : Nat) : Int) :: byts (z / 128) := by rw [byts, if_neg h]
theorem byts_len : ∀ (k z : Nat), z < 128 ^ (k + 1) → (byts z).length ≤ k + 1
  | 0, z, h => by
    rw [byts_lo (by simpa using h)]; simp
  | k + 1, z, h => by
    by_cases h0 : z < 128
    · rw [byts_lo h0]; simp
    · rw [byts_hi h0]
      have h1 : z / 128 < 128 ^ (k + 1) := by
        rw [Nat.div_lt_iff_lt_mul (by decide)]
        rw [Nat.pow_succ] at h; exact h
      have := byts_len k (z / 128) h1
      simp only [List.length_cons]
      omega
def prevW (xs : List Nat) : Nat → Int
  | 0 => 0
  | i + 1 => wordOf (xs.getD i 0)
def packTo (xs : List Nat) : Nat → List Int
  | 0 => []
  | i + 1 => packTo xs i ++ byts (zig (wordOf (xs.getD i 0)) (prevW xs i))
theorem packTo_zero (xs : List Nat) : packTo xs 0 = [] := rfl
theorem packTo_succ (xs : List Nat) (i : Nat) : packTo xs (i + 1) = packTo xs i ++ byts (zig (wordOf (xs.getD i 0)) (prevW xs i)) := rfl
theorem prevW_zero (xs : List Nat) : prevW xs 0 = 0 := rfl
theorem prevW_succ (xs : List Nat) (i : Nat) : prevW xs (i + 1) = wordOf (xs.getD i 0) := rfl
theorem packTo_len (xs : List Nat) : ∀ n, (packTo xs n).length ≤ 5 * n
  | 0 => by simp [packTo_zero]
  | n + 1 => by
    have h1 := packTo_len xs n
    have h2 := byts_len 4 (zig (wordOf (xs.getD n 0)) (prevW xs n)) (Nat.lt_of_lt_of_le (zig_lt _ _) (by decide))
    rw [packTo_succ, List.length_append]
    omega
attribute [irreducible] prevW packTo
end Go.Proofs.Ytmplincflbhmiaa
namespace Go.Proofs.Ytmplincflbhmiaa
set_option linter.unusedSimpArgs false
set_option linter.unusedVariables false
open Go Cn Go.RowKit
theorem word_of_nonan {b x : Nat} (h : cb .f32 b = x) (hc : fcmp .neq .f32 x x = false) : b = x := by
  subst h
  rw [neq_self] at hc
  unfold cb at hc ⊢
  split
  · rename_i hn
    rw [if_pos hn] at hc
    rw [qnan_nan] at hc; cases hc
  · rfl
section
variable {B : Nat} {W : World}
theorem c_spec_l01Bits {x : Nat} (hx : x < 4294967296) : ACalls Try.prog B 122 [.float .f32 x] W (fun r W' => r = .int .i64 (wordOf x) ∧ W' = W) := by
  refine acalls_of Try.func122 rfl Try.ntmps122 (Nat.le_of_ble_eq_true rfl) ?_
  repeat' (first
      | refine s_pure tabOk rfl rfl rfl rfl ?_
      | refine aops_nil ?_
      | refine thn_normal ?_
      | refine aw_seq ?_
      | refine aw_reg ?_
      | refine s_pass rfl rfl rfl ?_
      | refine s_len tabOk rfl rfl rfl rfl ?_
      | refine aw_true rfl ?_
      | refine aw_false rfl ?_
      | refine aw_block ?_
      | refine aw_skip ?_
      | refine aw_exit ?_
      | refine blk_exit ?_
      | refine blk_exit_other rfl ?_
      | refine blk_normal ?_
      | refine thn_exit ?_
      | refine thn_ret ?_
      | refine blk_ret ?_
      | refine rnd_ret ?_
      | refine rnd_exit ?_
      | refine aw_ret ?_
      | refine s_arith tabOk rfl rfl rfl rfl (by simp only [InR]; omega) ?_
      | ((fail_if_success refine s_told rfl rfl ?_); refine s_part rfl rfl rfl ?_ ?_ <;> intro hc <;> (first | replace hc := of_decide_eq_true hc | replace hc := of_decide_eq_false hc | replace hc := eq_of_beq hc | skip))
      | (refine aw_if rfl ?_ ?_ <;> intro hc <;> (first | replace hc := of_decide_eq_true hc | replace hc := of_decide_eq_false hc | replace hc := eq_of_beq hc | skip))
      | refine s_index1 tabOk rfl rfl rfl rfl (by omega) (by omega) ?_)
  · exact retK_ret tabOk (congrArg Array.toList Try.results122) (rv_tmp rfl rfl rv_nil) ⟨by unfold wordOf; rw [if_pos hc]; rfl, rfl⟩
  · refine s_ext rfl rfl rfl rfl (x_math_Float32bits _) ?_
    rintro _ W ⟨⟨b, rfl, hb⟩, rfl⟩
    have := word_of_nonan hb hc
    subst this
    repeat' (first
      | refine s_pure tabOk rfl rfl rfl rfl ?_
      | refine aops_nil ?_
      | refine thn_normal ?_
      | refine aw_seq ?_
      | refine aw_reg ?_
      | refine s_pass rfl rfl rfl ?_
      | refine s_len tabOk rfl rfl rfl rfl ?_
      | refine aw_true rfl ?_
      | refine aw_false rfl ?_
      | refine aw_block ?_
      | refine aw_skip ?_
      | refine aw_exit ?_
      | refine blk_exit ?_
      | refine blk_exit_other rfl ?_
      | refine blk_normal ?_
      | refine thn_exit ?_
      | refine thn_ret ?_
      | refine blk_ret ?_
      | refine rnd_ret ?_
      | refine rnd_exit ?_
      | refine aw_ret ?_
      | refine s_arith tabOk rfl rfl rfl rfl (by simp only [InR]; omega) ?_
      | ((fail_if_success refine s_told rfl rfl ?_); refine s_part rfl rfl rfl ?_ ?_ <;> intro hc <;> (first | replace hc := of_decide_eq_true hc | replace hc := of_decide_eq_false hc | replace hc := eq_of_beq hc | skip))
      | (refine aw_if rfl ?_ ?_ <;> intro hc <;> (first | replace hc := of_decide_eq_true hc | replace hc := of_decide_eq_false hc | replace hc := eq_of_beq hc | skip))
      | refine s_index1 tabOk rfl rfl rfl rfl (by omega) (by omega) ?_)
    exact retK_ret tabOk (congrArg Array.toList Try.results122) (rv_tmp rfl rfl rv_nil) ⟨by unfold wordOf; rw [if_neg (by simp [hc])]; rfl, rfl⟩
theorem c_impl_BitsOf {x : Nat} (hx : x < 4294967296) : ACalls Try.prog B 99 [.float .f32 x] W (fun r W' => r = .int .i64 (wordOf x) ∧ W' = W) := by
  refine acalls_of Try.func99 rfl Try.ntmps99 (Nat.le_of_ble_eq_true rfl) ?_
  repeat' (first
      | refine s_pure tabOk rfl rfl rfl rfl ?_
      | refine aops_nil ?_
      | refine thn_normal ?_
      | refine aw_seq ?_
      | refine aw_reg ?_
      | refine s_pass rfl rfl rfl ?_
      | refine s_len tabOk rfl rfl rfl rfl ?_
      | refine aw_true rfl ?_
      | refine aw_false rfl ?_
      | refine aw_block ?_
      | refine aw_skip ?_
      | refine aw_exit ?_
      | refine blk_exit ?_
      | refine blk_exit_other rfl ?_
      | refine blk_normal ?_
      | refine thn_exit ?_
      | refine thn_ret ?_
      | refine blk_ret ?_
      | refine rnd_ret ?_
      | refine rnd_exit ?_
      | refine aw_ret ?_
      | refine s_arith tabOk rfl rfl rfl rfl (by simp only [InR]; omega) ?_
      | ((fail_if_success refine s_told rfl rfl ?_); refine s_part rfl rfl rfl ?_ ?_ <;> intro hc <;> (first | replace hc := of_decide_eq_true hc | replace hc := of_decide_eq_false hc | replace hc := eq_of_beq hc | skip))
      | (refine aw_if rfl ?_ ?_ <;> intro hc <;> (first | replace hc := of_decide_eq_true hc | replace hc := of_decide_eq_false hc | replace hc := eq_of_beq hc | skip))
      | refine s_index1 tabOk rfl rfl rfl rfl (by omega) (by omega) ?_)
  · exact retK_ret tabOk (congrArg Array.toList Try.results99) (rv_tmp rfl rfl rv_nil) ⟨by unfold wordOf; rw [if_pos hc]; rfl, rfl⟩
  · refine s_ext rfl rfl rfl rfl (x_math_Float32bits _) ?_
    rintro _ W ⟨⟨b, rfl, hb⟩, rfl⟩
    have := word_of_nonan hb hc
    subst this
    repeat' (first
      | refine s_pure tabOk rfl rfl rfl rfl ?_
      | refine aops_nil ?_
      | refine thn_normal ?_
      | refine aw_seq ?_
      | refine aw_reg ?_
      | refine s_pass rfl rfl rfl ?_
      | refine s_len tabOk rfl rfl rfl rfl ?_
      | refine aw_true rfl ?_
      | refine aw_false rfl ?_
      | refine aw_block ?_
      | refine aw_skip ?_
      | refine aw_exit ?_
      | refine blk_exit ?_
      | refine blk_exit_other rfl ?_
      | refine blk_normal ?_
      | refine thn_exit ?_
      | refine thn_ret ?_
      | refine blk_ret ?_
      | refine rnd_ret ?_
      | refine rnd_exit ?_
      | refine aw_ret ?_
      | refine s_arith tabOk rfl rfl rfl rfl (by simp only [InR]; omega) ?_
      | ((fail_if_success refine s_told rfl rfl ?_); refine s_part rfl rfl rfl ?_ ?_ <;> intro hc <;> (first | replace hc := of_decide_eq_true hc | replace hc := of_decide_eq_false hc | replace hc := eq_of_beq hc | skip))
      | (refine aw_if rfl ?_ ?_ <;> intro hc <;> (first | replace hc := of_decide_eq_true hc | replace hc := of_decide_eq_false hc | replace hc := eq_of_beq hc | skip))
      | refine s_index1 tabOk rfl rfl rfl rfl (by omega) (by omega) ?_)
    exact retK_ret tabOk (congrArg Array.toList Try.results99) (rv_tmp rfl rfl rv_nil) ⟨by unfold wordOf; rw [if_neg (by simp [hc])]; rfl, rfl⟩
theorem u8s_push (xs : List Int) (z : Int) : u8s xs ++ [cl (.int .u8 z)] = u8s (xs ++ [z]) := by simp [u8s, cl]
theorem Bd.at {xs : List Nat} (h : Bd xs) {i : Nat} (hi : i < xs.length) : xs.getD i 0 < 4294967296 := by
  have : xs[i] ∈ xs := List.getElem_mem hi
  have := h _ this
  simpa [List.getD_eq_getElem?_getD, hi] using this
theorem prevW_range {xs : List Nat} (h : Bd xs) : ∀ {i : Nat}, i ≤ xs.length → 0 ≤ prevW xs i ∧ prevW xs i < 4294967296
  | 0, _ => by rw [prevW_zero]; decide
  | i + 1, hi => by rw [prevW_succ]; exact wordOf_range (h.at hi)
theorem zig_hi' {b p : Int} (h : (b - p) % 4294967296 ≥ 2147483648) : -2 * ((b - p) % 4294967296 - 4294967296) - 1 = zig b p := by
  have := zig_hi (b := b) (p := p) (by omega); omega
theorem zig_lo' {b p : Int} (h : ¬ (b - p) % 4294967296 ≥ 2147483648) : 2 * ((b - p) % 4294967296) = zig b p := by
  have := zig_lo (b := b) (p := p) (by omega); omega
theorem c_impl_pack {v : Value} {xs : List Nat} (hv : SlF W v xs) (hl : xs.length ≤ 1048576) (hbd : Bd xs) (hB : B ≤ W.heap.size) :
    ACalls Try.prog B 62 [v] W (fun r W' => OwnV W' W.heap.size 5 r (u8s (packTo xs xs.length)) ∧ Below W.heap.size W W') := by
  obtain ⟨a, c, rfl⟩ := hv.form
  refine acalls_of Try.func62 rfl Try.ntmps62 (Nat.le_of_ble_eq_true rfl) ?_
  repeat' (first
      | refine s_pure tabOk rfl rfl rfl rfl ?_
      | refine aops_nil ?_
      | refine thn_normal ?_
      | refine aw_seq ?_
      | refine aw_reg ?_
      | refine s_pass rfl rfl rfl ?_
      | refine s_len tabOk rfl rfl rfl rfl ?_
      | refine aw_true rfl ?_
      | refine aw_false rfl ?_
      | refine aw_block ?_
      | refine aw_skip ?_
      | refine aw_exit ?_
      | refine blk_exit ?_
      | refine blk_exit_other rfl ?_
      | refine blk_normal ?_
      | refine thn_exit ?_
      | refine thn_ret ?_
      | refine blk_ret ?_
      | refine rnd_ret ?_
      | refine rnd_exit ?_
      | refine aw_ret ?_
      | refine s_arith tabOk rfl rfl rfl rfl (by simp only [InR]; omega) ?_
      | ((fail_if_success refine s_told rfl rfl ?_); refine s_part rfl rfl rfl ?_ ?_ <;> intro hc <;> (first | replace hc := of_decide_eq_true hc | replace hc := of_decide_eq_false hc | replace hc := eq_of_beq hc | skip))
      | (refine aw_if rfl ?_ ?_ <;> intro hc <;> (first | replace hc := of_decide_eq_true hc | replace hc := of_decide_eq_false hc | replace hc := eq_of_beq hc | skip))
      | refine s_index1 tabOk rfl rfl rfl rfl (by omega) (by omega) ?_)
  refine s_buildSlice tabOk rfl rfl rfl rfl rfl (by simp) (by decide) (by decide) (by decide) ?_
  repeat' (first
      | refine s_pure tabOk rfl rfl rfl rfl ?_
      | refine aops_nil ?_
      | refine thn_normal ?_
      | refine aw_seq ?_
      | refine aw_reg ?_
      | refine s_pass rfl rfl rfl ?_
      | refine s_len tabOk rfl rfl rfl rfl ?_
      | refine aw_true rfl ?_
      | refine aw_false rfl ?_
      | refine aw_block ?_
      | refine aw_skip ?_
      | refine aw_exit ?_
      | refine blk_exit ?_
      | refine blk_exit_other rfl ?_
      | refine blk_normal ?_
      | refine thn_exit ?_
      | refine thn_ret ?_
      | refine blk_ret ?_
      | refine rnd_ret ?_
      | refine rnd_exit ?_
      | refine aw_ret ?_
      | refine s_arith tabOk rfl rfl rfl rfl (by simp only [InR]; omega) ?_
      | ((fail_if_success refine s_told rfl rfl ?_); refine s_part rfl rfl rfl ?_ ?_ <;> intro hc <;> (first | replace hc := of_decide_eq_true hc | replace hc := of_decide_eq_false hc | replace hc := eq_of_beq hc | skip))
      | (refine aw_if rfl ?_ ?_ <;> intro hc <;> (first | replace hc := of_decide_eq_true hc | replace hc := of_decide_eq_false hc | replace hc := eq_of_beq hc | skip))
      | refine s_index1 tabOk rfl rfl rfl rfl (by omega) (by omega) ?_)
  refine aw_loop (fun s : Nat × Value × World => [(12, .int .i64 s.1), (11, .int .i64 xs.length), (10, .slice a xs.length c), (4, .int .i64 (prevW xs s.1)), (3, s.2.1), (0, .slice a xs.length c)]) (fun s => s.2.2)
    (fun s => s.1 ≤ xs.length ∧ OwnV s.2.2 W.heap.size 5 s.2.1 (u8s (packTo xs s.1)) ∧ Below W.heap.size W s.2.2) (fun s => xs.length - s.1) (0, .slice (some ⟨W.heap.size, 0, none⟩) 0 0, W.alloc (.cells #[] 5)) ⟨by omega, by rw [packTo_zero]; exact OwnV.new (Nat.le_refl _), (Below.refl _ _).alloc (Nat.le_refl _) _⟩ (by dsimp only; rw [prevW_zero]; exact (by repeat (first | exact less_nil | refine less_cons rfl ?_))) rfl ?_
  rintro ⟨i, u, W1⟩ ⟨hi, hu, hW⟩
  dsimp only at hi hu hW ⊢
  have hpr := prevW_range hbd hi
  have hpl := packTo_len xs i
  repeat' (first
      | refine s_pure tabOk rfl rfl rfl rfl ?_
      | refine aops_nil ?_
      | refine thn_normal ?_
      | refine aw_seq ?_
      | refine aw_reg ?_
      | refine s_pass rfl rfl rfl ?_
      | refine s_len tabOk rfl rfl rfl rfl ?_
      | refine aw_true rfl ?_
      | refine aw_false rfl ?_
      | refine aw_block ?_
      | refine aw_skip ?_
      | refine aw_exit ?_
      | refine blk_exit ?_
      | refine blk_exit_other rfl ?_
      | refine blk_normal ?_
      | refine thn_exit ?_
      | refine thn_ret ?_
      | refine blk_ret ?_
      | refine rnd_ret ?_
      | refine rnd_exit ?_
      | refine aw_ret ?_
      | refine s_arith tabOk rfl rfl rfl rfl (by simp only [InR]; omega) ?_
      | ((fail_if_success refine s_told rfl rfl ?_); refine s_part rfl rfl rfl ?_ ?_ <;> intro hc <;> (first | replace hc := of_decide_eq_true hc | replace hc := of_decide_eq_false hc | replace hc := eq_of_beq hc | skip))
      | (refine aw_if rfl ?_ ?_ <;> intro hc <;> (first | replace hc := of_decide_eq_true hc | replace hc := of_decide_eq_false hc | replace hc := eq_of_beq hc | skip))
      | refine s_index1 tabOk rfl rfl rfl rfl (by omega) (by omega) ?_)
  · obtain ⟨b, off, rfl, hr⟩ := hv.read (by omega)
    have hw := wordOf_range (hbd.at (i := i) (by omega))
    have hm : 0 ≤ (wordOf (xs.getD i 0) - prevW xs i) % 4294967296 ∧ (wordOf (xs.getD i 0) - prevW xs i) % 4294967296 < 4294967296 := by omega
    have tail : ∀ (E : Env) (z : Nat) (W : World), z = zig (wordOf (xs.getD i 0)) (prevW xs i) → True := fun _ _ _ _ => trivial
    clear tail
    repeat' (first
      | refine s_pure tabOk rfl rfl rfl rfl ?_
      | refine aops_nil ?_
      | refine thn_normal ?_
      | refine aw_seq ?_
      | refine aw_reg ?_
      | refine s_pass rfl rfl rfl ?_
      | refine s_len tabOk rfl rfl rfl rfl ?_
      | refine aw_true rfl ?_
      | refine aw_false rfl ?_
      | refine aw_block ?_
      | refine aw_skip ?_
      | refine aw_exit ?_
      | refine blk_exit ?_
      | refine blk_exit_other rfl ?_
      | refine blk_normal ?_
      | refine thn_exit ?_
      | refine thn_ret ?_
      | refine blk_ret ?_
      | refine rnd_ret ?_
      | refine rnd_exit ?_
      | refine aw_ret ?_
      | refine s_arith tabOk rfl rfl rfl rfl (by simp only [InR]; omega) ?_
      | ((fail_if_success refine s_told rfl rfl ?_); refine s_part rfl rfl rfl ?_ ?_ <;> intro hc <;> (first | replace hc := of_decide_eq_true hc | replace hc := of_decide_eq_false hc | replace hc := eq_of_beq hc | skip))
      | (refine aw_if rfl ?_ ?_ <;> intro hc <;> (first | replace hc := of_decide_eq_true hc | replace hc := of_decide_eq_false hc | replace hc := eq_of_beq hc | skip))
      | refine s_index1 tabOk rfl rfl rfl rfl (by omega) (by omega) ?_)
    refine s_loadf tabOk rfl rfl rfl rfl ((hr.mono fun q y hq => by rw [hW.cell (World.block_lt_of_cell? _ _ hq)]; exact hq) _ (by omega)) ?_
    repeat' (first
      | refine s_pure tabOk rfl rfl rfl rfl ?_
      | refine aops_nil ?_
      | refine thn_normal ?_
      | refine aw_seq ?_
      | refine aw_reg ?_
      | refine s_pass rfl rfl rfl ?_
      | refine s_len tabOk rfl rfl rfl rfl ?_
      | refine aw_true rfl ?_
      | refine aw_false rfl ?_
      | refine aw_block ?_
      | refine aw_skip ?_
      | refine aw_exit ?_
      | refine blk_exit ?_
      | refine blk_exit_other rfl ?_
      | refine blk_normal ?_
      | refine thn_exit ?_
      | refine thn_ret ?_
      | refine blk_ret ?_
      | refine rnd_ret ?_
      | refine rnd_exit ?_
      | refine aw_ret ?_
      | refine s_arith tabOk rfl rfl rfl rfl (by simp only [InR]; omega) ?_
      | ((fail_if_success refine s_told rfl rfl ?_); refine s_part rfl rfl rfl ?_ ?_ <;> intro hc <;> (first | replace hc := of_decide_eq_true hc | replace hc := of_decide_eq_false hc | replace hc := eq_of_beq hc | skip))
      | (refine aw_if rfl ?_ ?_ <;> intro hc <;> (first | replace hc := of_decide_eq_true hc | replace hc := of_decide_eq_false hc | replace hc := eq_of_beq hc | skip))
      | refine s_index1 tabOk rfl rfl rfl rfl (by omega) (by omega) ?_)
    refine s_call rfl rfl rfl rfl ent99 (c_impl_BitsOf (hbd.at (i := Int.toNat i) (by omega))) ?_
    rintro _ W1 ⟨rfl, rfl⟩
    simp only [Int.toNat_natCast]
    repeat' (first
      | refine s_pure tabOk rfl rfl rfl rfl ?_
      | refine aops_nil ?_
      | refine thn_normal ?_
      | refine aw_seq ?_
      | refine aw_reg ?_
      | refine s_pass rfl rfl rfl ?_
      | refine s_len tabOk rfl rfl rfl rfl ?_
      | refine aw_true rfl ?_
      | refine aw_false rfl ?_
      | refine aw_block ?_
      | refine aw_skip ?_
      | refine aw_exit ?_
      | refine blk_exit ?_
      | refine blk_exit_other rfl ?_
      | refine blk_normal ?_
      | refine thn_exit ?_
      | refine thn_ret ?_
      | refine blk_ret ?_
      | refine rnd_ret ?_
      | refine rnd_exit ?_
      | refine aw_ret ?_
      | refine s_arith tabOk rfl rfl rfl rfl (by simp only [InR]; omega) ?_
      | ((fail_if_success refine s_told rfl rfl ?_); refine s_part rfl rfl rfl ?_ ?_ <;> intro hc <;> (first | replace hc := of_decide_eq_true hc | replace hc := of_decide_eq_false hc | replace hc := eq_of_beq hc | skip))
      | (refine aw_if rfl ?_ ?_ <;> intro hc <;> (first | replace hc := of_decide_eq_true hc | replace hc := of_decide_eq_false hc | replace hc := eq_of_beq hc | skip))
      | refine s_index1 tabOk rfl rfl rfl rfl (by omega) (by omega) ?_)
    refine s_bits rfl rfl rfl rfl rfl ?_
    rw [and32]
    repeat' (first
      | refine s_pure tabOk rfl rfl rfl rfl ?_
      | refine aops_nil ?_
      | refine thn_normal ?_
      | refine aw_seq ?_
      | refine aw_reg ?_
      | refine s_pass rfl rfl rfl ?_
      | refine s_len tabOk rfl rfl rfl rfl ?_
      | refine aw_true rfl ?_
      | refine aw_false rfl ?_
      | refine aw_block ?_
      | refine aw_skip ?_
      | refine aw_exit ?_
      | refine blk_exit ?_
      | refine blk_exit_other rfl ?_
      | refine blk_normal ?_
      | refine thn_exit ?_
      | refine thn_ret ?_
      | refine blk_ret ?_
      | refine rnd_ret ?_
      | refine rnd_exit ?_
      | refine aw_ret ?_
      | refine s_arith tabOk rfl rfl rfl rfl (by simp only [InR]; omega) ?_
      | ((fail_if_success refine s_told rfl rfl ?_); refine s_part rfl rfl rfl ?_ ?_ <;> intro hc <;> (first | replace hc := of_decide_eq_true hc | replace hc := of_decide_eq_false hc | replace hc := eq_of_beq hc | skip))
      | (refine aw_if rfl ?_ ?_ <;> intro hc <;> (first | replace hc := of_decide_eq_true hc | replace hc := of_decide_eq_false hc | replace hc := eq_of_beq hc | skip))
      | refine s_index1 tabOk rfl rfl rfl rfl (by omega) (by omega) ?_)
    refine s_call rfl rfl rfl rfl ent99 (c_impl_BitsOf (hbd.at (i := i) (by omega))) ?_
    rintro _ W1 ⟨rfl, rfl⟩
    repeat' (first
      | refine s_pure tabOk rfl rfl rfl rfl ?_
      | refine aops_nil ?_
      | refine thn_normal ?_
      | refine aw_seq ?_
      | refine aw_reg ?_
      | refine s_pass rfl rfl rfl ?_
      | refine s_len tabOk rfl rfl rfl rfl ?_
      | refine aw_true rfl ?_
      | refine aw_false rfl ?_
      | refine aw_block ?_
      | refine aw_skip ?_
      | refine aw_exit ?_
      | refine blk_exit ?_
      | refine blk_exit_other rfl ?_
      | refine blk_normal ?_
      | refine thn_exit ?_
      | refine thn_ret ?_
      | refine blk_ret ?_
      | refine rnd_ret ?_
      | refine rnd_exit ?_
      | refine aw_ret ?_
      | refine s_arith tabOk rfl rfl rfl rfl (by simp only [InR]; omega) ?_
      | ((fail_if_success refine s_told rfl rfl ?_); refine s_part rfl rfl rfl ?_ ?_ <;> intro hc <;> (first | replace hc := of_decide_eq_true hc | replace hc := of_decide_eq_false hc | replace hc := eq_of_beq hc | skip))
      | (refine aw_if rfl ?_ ?_ <;> intro hc <;> (first | replace hc := of_decide_eq_true hc | replace hc := of_decide_eq_false hc | replace hc := eq_of_beq hc | skip))
      | refine s_index1 tabOk rfl rfl rfl rfl (by omega) (by omega) ?_)
    all_goals try (exfalso; omega)
    all_goals
      first
      | rw [zig_hi' (by assumption)]
      | rw [zig_lo' (by assumption)]
    all_goals
      refine aw_loop (fun s : Value × Nat × World => [(8, .int .i64 s.2.1), (3, s.1), (12, .int .i64 i), (11, .int .i64 xs.length), (10, .slice (some ⟨b, off, none⟩) xs.length c), (4, .int .i64 (wordOf (xs.getD i 0))), (0, .slice (some ⟨b, off, none⟩) xs.length c)]) (fun s => s.2.2)
        (fun s => ∃ ys, OwnV s.2.2 W.heap.size 5 s.1 (u8s ys) ∧ ys ++ byts s.2.1 = packTo xs (i + 1) ∧ Below W.heap.size W s.2.2 ∧ s.2.1 < 4294967296) (fun s => s.2.1) (u, zig (wordOf (xs.getD i 0)) (prevW xs i), W1) ⟨packTo xs i, hu, (packTo_succ _ _).symm, hW, zig_lt _ _⟩ (by dsimp only; exact (by repeat (first | exact less_nil | refine less_cons rfl ?_))) rfl ?_
      rintro ⟨u, y, W1⟩ ⟨ys, h1, h2, h3, h4⟩
      dsimp only at h1 h2 h3 h4 ⊢
      have z1 := h3.size
      have hlen : ys.length + (byts y).length = (packTo xs (i + 1)).length := by
        have := congrArg List.length h2
        simpa using this
      have hlz := packTo_len xs (i + 1)
      obtain ⟨ua, uc, rfl⟩ := h1.form
      repeat' (first
      | refine s_pure tabOk rfl rfl rfl rfl ?_
      | refine aops_nil ?_
      | refine thn_normal ?_
      | refine aw_seq ?_
      | refine aw_reg ?_
      | refine s_pass rfl rfl rfl ?_
      | refine s_len tabOk rfl rfl rfl rfl ?_
      | refine aw_true rfl ?_
      | refine aw_false rfl ?_
      | refine aw_block ?_
      | refine aw_skip ?_
      | refine aw_exit ?_
      | refine blk_exit ?_
      | refine blk_exit_other rfl ?_
      | refine blk_normal ?_
      | refine thn_exit ?_
      | refine thn_ret ?_
      | refine blk_ret ?_
      | refine rnd_ret ?_
      | refine rnd_exit ?_
      | refine aw_ret ?_
      | refine s_arith tabOk rfl rfl rfl rfl (by simp only [InR]; omega) ?_
      | ((fail_if_success refine s_told rfl rfl ?_); refine s_part rfl rfl rfl ?_ ?_ <;> intro hc <;> (first | replace hc := of_decide_eq_true hc | replace hc := of_decide_eq_false hc | replace hc := eq_of_beq hc | skip))
      | (refine aw_if rfl ?_ ?_ <;> intro hc <;> (first | replace hc := of_decide_eq_true hc | replace hc := of_decide_eq_false hc | replace hc := eq_of_beq hc | skip))
      | refine s_index1 tabOk rfl rfl rfl rfl (by omega) (by omega) ?_)
      · refine s_rem rfl rfl rfl rfl (by omega) (by decide) ?_
        repeat' (first
      | refine s_pure tabOk rfl rfl rfl rfl ?_
      | refine aops_nil ?_
      | refine thn_normal ?_
      | refine aw_seq ?_
      | refine aw_reg ?_
      | refine s_pass rfl rfl rfl ?_
      | refine s_len tabOk rfl rfl rfl rfl ?_
      | refine aw_true rfl ?_
      | refine aw_false rfl ?_
      | refine aw_block ?_
      | refine aw_skip ?_
      | refine aw_exit ?_
      | refine blk_exit ?_
      | refine blk_exit_other rfl ?_
      | refine blk_normal ?_
      | refine thn_exit ?_
      | refine thn_ret ?_
      | refine blk_ret ?_
      | refine rnd_ret ?_
      | refine rnd_exit ?_
      | refine aw_ret ?_
      | refine s_arith tabOk rfl rfl rfl rfl (by simp only [InR]; omega) ?_
      | ((fail_if_success refine s_told rfl rfl ?_); refine s_part rfl rfl rfl ?_ ?_ <;> intro hc <;> (first | replace hc := of_decide_eq_true hc | replace hc := of_decide_eq_false hc | replace hc := eq_of_beq hc | skip))
      | (refine aw_if rfl ?_ ?_ <;> intro hc <;> (first | replace hc := of_decide_eq_true hc | replace hc := of_decide_eq_false hc | replace hc := eq_of_beq hc | skip))
      | refine s_index1 tabOk rfl rfl rfl rfl (by omega) (by omega) ?_)
        refine s_buildSlice tabOk rfl rfl rfl rfl rfl (by simp [Value.cells]) (by decide) (by decide) (by simp) ?_
        refine s_push tabOk rfl rfl rfl rfl rfl rfl rfl rfl rfl rfl h1 hB (by omega) (by simp; omega) ?_
        intro u' W2 ho hg
        rw [u8s_push] at ho
        obtain ⟨va, vc, rfl⟩ := ho.form
        repeat' (first
      | refine s_pure tabOk rfl rfl rfl rfl ?_
      | refine aops_nil ?_
      | refine thn_normal ?_
      | refine aw_seq ?_
      | refine aw_reg ?_
      | refine s_pass rfl rfl rfl ?_
      | refine s_len tabOk rfl rfl rfl rfl ?_
      | refine aw_true rfl ?_
      | refine aw_false rfl ?_
      | refine aw_block ?_
      | refine aw_skip ?_
      | refine aw_exit ?_
      | refine blk_exit ?_
      | refine blk_exit_other rfl ?_
      | refine blk_normal ?_
      | refine thn_exit ?_
      | refine thn_ret ?_
      | refine blk_ret ?_
      | refine rnd_ret ?_
      | refine rnd_exit ?_
      | refine aw_ret ?_
      | refine s_arith tabOk rfl rfl rfl rfl (by simp only [InR]; omega) ?_
      | ((fail_if_success refine s_told rfl rfl ?_); refine s_part rfl rfl rfl ?_ ?_ <;> intro hc <;> (first | replace hc := of_decide_eq_true hc | replace hc := of_decide_eq_false hc | replace hc := eq_of_beq hc | skip))
      | (refine aw_if rfl ?_ ?_ <;> intro hc <;> (first | replace hc := of_decide_eq_true hc | replace hc := of_decide_eq_false hc | replace hc := eq_of_beq hc | skip))
      | refine s_index1 tabOk rfl rfl rfl rfl (by omega) (by omega) ?_)
        refine s_div rfl rfl rfl rfl (by omega) (by decide) (by simp only [InR]; omega) ?_
        repeat' (first
      | refine s_pure tabOk rfl rfl rfl rfl ?_
      | refine aops_nil ?_
      | refine thn_normal ?_
      | refine aw_seq ?_
      | refine aw_reg ?_
      | refine s_pass rfl rfl rfl ?_
      | refine s_len tabOk rfl rfl rfl rfl ?_
      | refine aw_true rfl ?_
      | refine aw_false rfl ?_
      | refine aw_block ?_
      | refine aw_skip ?_
      | refine aw_exit ?_
      | refine blk_exit ?_
      | refine blk_exit_other rfl ?_
      | refine blk_normal ?_
      | refine thn_exit ?_
      | refine thn_ret ?_
      | refine blk_ret ?_
      | refine rnd_ret ?_
      | refine rnd_exit ?_
      | refine aw_ret ?_
      | refine s_arith tabOk rfl rfl rfl rfl (by simp only [InR]; omega) ?_
      | ((fail_if_success refine s_told rfl rfl ?_); refine s_part rfl rfl rfl ?_ ?_ <;> intro hc <;> (first | replace hc := of_decide_eq_true hc | replace hc := of_decide_eq_false hc | replace hc := eq_of_beq hc | skip))
      | (refine aw_if rfl ?_ ?_ <;> intro hc <;> (first | replace hc := of_decide_eq_true hc | replace hc := of_decide_eq_false hc | replace hc := eq_of_beq hc | skip))
      | refine s_index1 tabOk rfl rfl rfl rfl (by omega) (by omega) ?_)
        have e1 := byts_hi (z := y) (by omega)
        refine rnd_next (_, y / 128, W2) ⟨ys ++ [((y : Int) % 128 + 128)], ho, ?_, h3.trans hg, by dsimp only; omega⟩ (by dsimp only; omega) (by dsimp only; exact (by repeat (first | exact less_nil | refine less_cons rfl ?_))) rfl
        dsimp only
        rw [← h2, e1, List.append_assoc]
        rfl
      · refine s_buildSlice tabOk rfl rfl rfl rfl rfl (by simp [Value.cells]) (by decide) (by decide) (by simp) ?_
        refine s_push tabOk rfl rfl rfl rfl rfl rfl rfl rfl rfl rfl h1 hB (by omega) (by simp; omega) ?_
        intro u' W2 ho hg
        rw [u8s_push] at ho
        obtain ⟨va, vc, rfl⟩ := ho.form
        repeat' (first
      | refine s_pure tabOk rfl rfl rfl rfl ?_
      | refine aops_nil ?_
      | refine thn_normal ?_
      | refine aw_seq ?_
      | refine aw_reg ?_
      | refine s_pass rfl rfl rfl ?_
      | refine s_len tabOk rfl rfl rfl rfl ?_
      | refine aw_true rfl ?_
      | refine aw_false rfl ?_
      | refine aw_block ?_
      | refine aw_skip ?_
      | refine aw_exit ?_
      | refine blk_exit ?_
      | refine blk_exit_other rfl ?_
      | refine blk_normal ?_
      | refine thn_exit ?_
      | refine thn_ret ?_
      | refine blk_ret ?_
      | refine rnd_ret ?_
      | refine rnd_exit ?_
      | refine aw_ret ?_
      | refine s_arith tabOk rfl rfl rfl rfl (by simp only [InR]; omega) ?_
      | ((fail_if_success refine s_told rfl rfl ?_); refine s_part rfl rfl rfl ?_ ?_ <;> intro hc <;> (first | replace hc := of_decide_eq_true hc | replace hc := of_decide_eq_false hc | replace hc := eq_of_beq hc | skip))
      | (refine aw_if rfl ?_ ?_ <;> intro hc <;> (first | replace hc := of_decide_eq_true hc | replace hc := of_decide_eq_false hc | replace hc := eq_of_beq hc | skip))
      | refine s_index1 tabOk rfl rfl rfl rfl (by omega) (by omega) ?_)
        have e1 := byts_lo (z := y) (by omega)
        rw [e1] at h2
        rw [h2] at ho
        refine rnd_next (i + 1, _, W2) ⟨by dsimp only; omega, ho, h3.trans hg⟩ (by dsimp only; omega) (by dsimp only; rw [prevW_succ, ← h2]; exact (by repeat (first | exact less_nil | refine less_cons rfl ?_))) rfl
  · have hil : i = xs.length := by omega
    subst hil
    obtain ⟨ua, uc, rfl⟩ := hu.form
    exact retK_ret tabOk (congrArg Array.toList Try.results62) (rv_tmp rfl rfl rv_nil) ⟨hu, hW⟩
@[irreducible] def packOk (n : Nat) : Bool := decide (1 ≤ n) && decide (n ≤ 128)
@[irreducible] def packS (xs : List Nat) : ByteArray := if packOk xs.length then strOfNums (packTo xs xs.length) else ⟨#[]⟩
theorem c_impl_PackRecord {v : Value} {xs : List Nat} (hv : SlF W v xs) (hl : xs.length ≤ 1048576) (hbd : Bd xs) (hB : B ≤ W.heap.size) :
    ACalls Try.prog B 23 [v] W (fun r W' => r = .tuple #[.string (packS xs), .bool (packOk xs.length)] ∧ Below W.heap.size W W') := by
  obtain ⟨a, c, rfl⟩ := hv.form
  refine acalls_of Try.func23 rfl Try.ntmps23 (Nat.le_of_ble_eq_true rfl) ?_
  repeat' (first
      | refine s_pure tabOk rfl rfl rfl rfl ?_
      | refine aops_nil ?_
      | refine thn_normal ?_
      | refine aw_seq ?_
      | refine aw_reg ?_
      | refine s_pass rfl rfl rfl ?_
      | refine s_len tabOk rfl rfl rfl rfl ?_
      | refine aw_true rfl ?_
      | refine aw_false rfl ?_
      | refine aw_block ?_
      | refine aw_skip ?_
      | refine aw_exit ?_
      | refine blk_exit ?_
      | refine blk_exit_other rfl ?_
      | refine blk_normal ?_
      | refine thn_exit ?_
      | refine thn_ret ?_
      | refine blk_ret ?_
      | refine rnd_ret ?_
      | refine rnd_exit ?_
      | refine aw_ret ?_
      | refine s_arith tabOk rfl rfl rfl rfl (by simp only [InR]; omega) ?_
      | ((fail_if_success refine s_told rfl rfl ?_); refine s_part rfl rfl rfl ?_ ?_ <;> intro hc <;> (first | replace hc := of_decide_eq_true hc | replace hc := of_decide_eq_false hc | replace hc := eq_of_beq hc | skip))
      | (refine aw_if rfl ?_ ?_ <;> intro hc <;> (first | replace hc := of_decide_eq_true hc | replace hc := of_decide_eq_false hc | replace hc := eq_of_beq hc | skip))
      | refine s_index1 tabOk rfl rfl rfl rfl (by omega) (by omega) ?_)
  refine s_call rfl rfl rfl rfl ent61 (c_impl_isMany hv _) ?_
  rintro _ W ⟨rfl, rfl⟩
  repeat' (first
      | refine s_pure tabOk rfl rfl rfl rfl ?_
      | refine aops_nil ?_
      | refine thn_normal ?_
      | refine aw_seq ?_
      | refine aw_reg ?_
      | refine s_pass rfl rfl rfl ?_
      | refine s_len tabOk rfl rfl rfl rfl ?_
      | refine aw_true rfl ?_
      | refine aw_false rfl ?_
      | refine aw_block ?_
      | refine aw_skip ?_
      | refine aw_exit ?_
      | refine blk_exit ?_
      | refine blk_exit_other rfl ?_
      | refine blk_normal ?_
      | refine thn_exit ?_
      | refine thn_ret ?_
      | refine blk_ret ?_
      | refine rnd_ret ?_
      | refine rnd_exit ?_
      | refine aw_ret ?_
      | refine s_arith tabOk rfl rfl rfl rfl (by simp only [InR]; omega) ?_
      | ((fail_if_success refine s_told rfl rfl ?_); refine s_part rfl rfl rfl ?_ ?_ <;> intro hc <;> (first | replace hc := of_decide_eq_true hc | replace hc := of_decide_eq_false hc | replace hc := eq_of_beq hc | skip))
      | (refine aw_if rfl ?_ ?_ <;> intro hc <;> (first | replace hc := of_decide_eq_true hc | replace hc := of_decide_eq_false hc | replace hc := eq_of_beq hc | skip))
      | refine s_index1 tabOk rfl rfl rfl rfl (by omega) (by omega) ?_)
  · refine retK_ret tabOk (congrArg Array.toList Try.results23) (rv_tmp rfl rfl (rv_tmp rfl rfl rv_nil)) ⟨?_, Below.refl _ _⟩
    have : packOk xs.length = false := by
      unfold packOk; simp at hc ⊢; omega
    simp [retV, packS, this]
  · refine s_call rfl rfl rfl rfl ent62 (c_impl_pack hv hl hbd hB) ?_
    rintro u W1 ⟨hu, g1⟩
    obtain ⟨ua, uc, rfl⟩ := hu.form
    repeat' (first
      | refine s_pure tabOk rfl rfl rfl rfl ?_
      | refine aops_nil ?_
      | refine thn_normal ?_
      | refine aw_seq ?_
      | refine aw_reg ?_
      | refine s_pass rfl rfl rfl ?_
      | refine s_len tabOk rfl rfl rfl rfl ?_
      | refine aw_true rfl ?_
      | refine aw_false rfl ?_
      | refine aw_block ?_
      | refine aw_skip ?_
      | refine aw_exit ?_
      | refine blk_exit ?_
      | refine blk_exit_other rfl ?_
      | refine blk_normal ?_
      | refine thn_exit ?_
      | refine thn_ret ?_
      | refine blk_ret ?_
      | refine rnd_ret ?_
      | refine rnd_exit ?_
      | refine aw_ret ?_
      | refine s_arith tabOk rfl rfl rfl rfl (by simp only [InR]; omega) ?_
      | ((fail_if_success refine s_told rfl rfl ?_); refine s_part rfl rfl rfl ?_ ?_ <;> intro hc <;> (first | replace hc := of_decide_eq_true hc | replace hc := of_decide_eq_false hc | replace hc := eq_of_beq hc | skip))
      | (refine aw_if rfl ?_ ?_ <;> intro hc <;> (first | replace hc := of_decide_eq_true hc | replace hc := of_decide_eq_false hc | replace hc := eq_of_beq hc | skip))
      | refine s_index1 tabOk rfl rfl rfl rfl (by omega) (by omega) ?_)
    refine s_bytesString tabOk rfl rfl rfl rfl hu ?_
    repeat' (first
      | refine s_pure tabOk rfl rfl rfl rfl ?_
      | refine aops_nil ?_
      | refine thn_normal ?_
      | refine aw_seq ?_
      | refine aw_reg ?_
      | refine s_pass rfl rfl rfl ?_
      | refine s_len tabOk rfl rfl rfl rfl ?_
      | refine aw_true rfl ?_
      | refine aw_false rfl ?_
      | refine aw_block ?_
      | refine aw_skip ?_
      | refine aw_exit ?_
      | refine blk_exit ?_
      | refine blk_exit_other rfl ?_
      | refine blk_normal ?_
      | refine thn_exit ?_
      | refine thn_ret ?_
      | refine blk_ret ?_
      | refine rnd_ret ?_
      | refine rnd_exit ?_
      | refine aw_ret ?_
      | refine s_arith tabOk rfl rfl rfl rfl (by simp only [InR]; omega) ?_
      | ((fail_if_success refine s_told rfl rfl ?_); refine s_part rfl rfl rfl ?_ ?_ <;> intro hc <;> (first | replace hc := of_decide_eq_true hc | replace hc := of_decide_eq_false hc | replace hc := eq_of_beq hc | skip))
      | (refine aw_if rfl ?_ ?_ <;> intro hc <;> (first | replace hc := of_decide_eq_true hc | replace hc := of_decide_eq_false hc | replace hc := eq_of_beq hc | skip))
      | refine s_index1 tabOk rfl rfl rfl rfl (by omega) (by omega) ?_)
    refine retK_ret tabOk (congrArg Array.toList Try.results23) (rv_tmp rfl rfl (rv_tmp rfl rfl rv_nil)) ⟨?_, g1⟩
    have : packOk xs.length = true := by
      unfold packOk; simp at hc ⊢; omega
    simp [retV, packS, this]
end
end Go.Proofs.Ytmplincflbhmiaa
