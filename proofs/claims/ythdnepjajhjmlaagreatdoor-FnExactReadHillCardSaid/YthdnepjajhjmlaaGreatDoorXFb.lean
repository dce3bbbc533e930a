/- Records packed: both ways. -/
import Derived.Test.YthdnepjajhjmlaaGreatDoorXFa
import Derived.Test.YthdnepjajhjmlaaGreatDoorFz
import Derived.Test.YthdnepjajhjmlaaGreatDoorCn11
import Derived.Test.YthdnepjajhjmlaaGreatDoorXFq
import Derived.Test.YthdnepjajhjmlaaGreatDoorXGz
import Derived.Test.YthdnepjajhjmlaaGreatDoorCn12
namespace Go.Proofs.YthdnepjajhjmlaaGreatDoor
set_option linter.unusedSimpArgs false
set_option linter.unusedVariables false
open Go Cn Go.RowKit

/-! ### what is read stays -/
theorem RdF.mono {W W' : World} {b off : Nat} {xs : List Nat} (h : RdF W b off xs) (hc : ∀ a v, W.cell? a = some v → W'.cell? a = some v) : RdF W' b off xs := by
  intro i hi
  obtain ⟨y, h1, h2⟩ := h i hi
  exact ⟨y, hc _ _ h1, h2⟩
theorem SlF.mono {W W' : World} {v : Value} {xs : List Nat} (h : SlF W v xs) (hc : ∀ a u, W.cell? a = some u → W'.cell? a = some u) : SlF W' v xs := by
  rcases h with h | ⟨b, off, c, h1, h2⟩
  · exact .inl h
  · exact .inr ⟨b, off, c, h1, h2.mono hc⟩
theorem cell_alloc {W : World} {a : Addr} {v : Value} (o : Obj) (h : W.cell? a = some v) : (W.alloc o).cell? a = some v := by
  rw [World.cell?_alloc_lt _ _ _ (World.block_lt_of_cell? _ _ h)]; exact h
theorem SlF.alloc {W : World} {v : Value} {xs : List Nat} (h : SlF W v xs) (o : Obj) : SlF (W.alloc o) v xs := h.mono fun _ _ hc => cell_alloc o hc
theorem SlF.below {W W' : World} {v : Value} {xs : List Nat} (h : SlF W v xs) (hb : Below W.heap.size W W') : SlF W' v xs :=
  h.mono fun a u hc => by rw [hb.cell (World.block_lt_of_cell? _ _ hc)]; exact hc
/-- canonical words -/
def CanF (xs : List Nat) : Prop := ∀ i, i < xs.length → cb .f32 (xs.getD i 0) = xs.getD i 0
theorem SlF.canon {W : World} {v : Value} {xs : List Nat} (h : SlF W v xs) : CanF xs := by
  rcases h with ⟨-, rfl⟩ | ⟨b, off, c, -, h2⟩
  · intro i hi; simp at hi
  · intro i hi; exact h2.canon hi
theorem rdF_block {W : World} {b : Nat} {e : TypeId} {f : Nat × Nat} {xs : List Nat} {cur : Array Value} (h : W.heap[b]? = some (.cells cur e f)) (hc : CanF xs) (hx : ∀ i, i < xs.length → cur[i]? = some (.float .f32 (xs.getD i 0))) : RdF W b 0 xs := by
  intro i hi
  refine ⟨xs.getD i 0, ?_, hc i hi⟩
  simp [World.cell?, h, hx i hi]
/-! ### copies -/
theorem splice_one {cur : Array Value} {i : Nat} (h : i < cur.size) (v : Value) (j : Nat) : (splice cur i [v])[j]? = if j = i then some v else cur[j]? := by
  unfold splice
  simp only [List.getElem?_toArray, List.append_assoc, List.length_singleton]
  have hl : (cur.toList.take i).length = i := by simp; omega
  by_cases h1 : j < i
  · rw [List.getElem?_append_left (by omega), if_neg (by omega), List.getElem?_take, if_pos h1]; simp
  · rw [List.getElem?_append_right (by omega), hl]
    by_cases h2 : j = i
    · subst h2; simp
    · rw [if_neg h2]
      rw [show j - i = (j - i - 1) + 1 by omega]
      simp only [List.singleton_append, List.getElem?_cons_succ, List.getElem?_drop]
      rw [show i + 1 + (j - i - 1) = j by omega]
      simp
section
variable {B : Nat} {W : World}
end
end Go.Proofs.YthdnepjajhjmlaaGreatDoor
namespace Go.Proofs.YthdnepjajhjmlaaGreatDoor
set_option linter.unusedSimpArgs false
set_option linter.unusedVariables false
open Go Cn Go.RowKit
section
variable {B : Nat} {W : World}
/-- a number and itself -/
theorem c_laws_sameFloat {x : Nat} : ACalls Tryz.prog B 27 [.float .f64 x, .float .f64 x] W (fun r W' => r = .bool true ∧ W' = W) := by
  refine acalls_of Tryz.func27 rfl Tryz.ntmps27 (Nat.le_of_ble_eq_true rfl) ?_
  repeat' (first
      | refine s_pure tabOk rfl rfl rfl rfl ?_
      | refine aops_nil ?_
      | refine thn_normal ?_
      | refine aw_seq ?_
      | refine aw_reg ?_
      | refine s_pass rfl rfl rfl ?_
      | refine s_len tabOk rfl rfl rfl rfl ?_
      | refine aw_true rfl ?_
      | refine aw_false rfl ?_
      | refine aw_block ?_
      | refine aw_skip ?_
      | refine aw_exit ?_
      | refine blk_exit ?_
      | refine blk_exit_other rfl ?_
      | refine blk_normal ?_
      | refine thn_exit ?_
      | refine thn_ret ?_
      | refine blk_ret ?_
      | refine rnd_ret ?_
      | refine rnd_exit ?_
      | refine aw_ret ?_
      | refine s_arith tabOk rfl rfl rfl rfl (by simp only [InR]; omega) ?_
      | ((fail_if_success refine s_told rfl rfl ?_); refine s_part rfl rfl rfl ?_ ?_ <;> intro hc <;> (first | replace hc := of_decide_eq_true hc | replace hc := of_decide_eq_false hc | replace hc := eq_of_beq hc | skip))
      | (refine aw_if rfl ?_ ?_ <;> intro hc <;> (first | replace hc := of_decide_eq_true hc | replace hc := of_decide_eq_false hc | replace hc := eq_of_beq hc | skip))
      | refine s_index1 tabOk rfl rfl rfl rfl (by omega) (by omega) ?_)
  all_goals refine retK_ret tabOk (congrArg Array.toList Tryz.results27) (rv_tmp rfl rfl rv_nil) ⟨?_, rfl⟩
  all_goals simp_all [retV, neq_self, eql_self]
theorem c_laws_eqFloat32S {v v' : Value} {xs : List Nat} (hv : SlF W v xs) (hv' : SlF W v' xs) (hl : xs.length ≤ 1048576) : ACalls Tryz.prog B 14 [v, v'] W (fun r W' => r = .bool true ∧ W' = W) := by
  have hx : ∃ a c a' c', v = .slice a xs.length c ∧ v' = .slice a' xs.length c' ∧ (∀ i, i < xs.length → ∃ b off b' off', a = some ⟨b, off, none⟩ ∧ a' = some ⟨b', off', none⟩ ∧ RdF W b off xs ∧ RdF W b' off' xs) := by
    rcases hv with ⟨rfl, rfl⟩ | ⟨b, off, c, rfl, hr⟩ <;> rcases hv' with ⟨rfl, h⟩ | ⟨b', off', c', rfl, hr'⟩
    · exact ⟨_, _, _, _, rfl, rfl, fun i hi => by simp at hi⟩
    · exact ⟨_, _, _, _, rfl, rfl, fun i hi => by simp at hi⟩
    · subst h; exact ⟨_, _, _, _, rfl, rfl, fun i hi => by simp at hi⟩
    · exact ⟨_, _, _, _, rfl, rfl, fun i hi => ⟨_, _, _, _, rfl, rfl, hr, hr'⟩⟩
  obtain ⟨a, c, a', c', rfl, rfl, hrd⟩ := hx
  refine acalls_of Tryz.func14 rfl Tryz.ntmps14 (Nat.le_of_ble_eq_true rfl) ?_
  repeat' (first
      | refine s_pure tabOk rfl rfl rfl rfl ?_
      | refine aops_nil ?_
      | refine thn_normal ?_
      | refine aw_seq ?_
      | refine aw_reg ?_
      | refine s_pass rfl rfl rfl ?_
      | refine s_len tabOk rfl rfl rfl rfl ?_
      | refine aw_true rfl ?_
      | refine aw_false rfl ?_
      | refine aw_block ?_
      | refine aw_skip ?_
      | refine aw_exit ?_
      | refine blk_exit ?_
      | refine blk_exit_other rfl ?_
      | refine blk_normal ?_
      | refine thn_exit ?_
      | refine thn_ret ?_
      | refine blk_ret ?_
      | refine rnd_ret ?_
      | refine rnd_exit ?_
      | refine aw_ret ?_
      | refine s_arith tabOk rfl rfl rfl rfl (by simp only [InR]; omega) ?_
      | ((fail_if_success refine s_told rfl rfl ?_); refine s_part rfl rfl rfl ?_ ?_ <;> intro hc <;> (first | replace hc := of_decide_eq_true hc | replace hc := of_decide_eq_false hc | replace hc := eq_of_beq hc | skip))
      | (refine aw_if rfl ?_ ?_ <;> intro hc <;> (first | replace hc := of_decide_eq_true hc | replace hc := of_decide_eq_false hc | replace hc := eq_of_beq hc | skip))
      | refine s_index1 tabOk rfl rfl rfl rfl (by omega) (by omega) ?_)
  · exact absurd hc (by simp)
  · refine aw_loop (fun i : Nat => [(5, .int .i64 i), (0, .slice a xs.length c), (1, .slice a' xs.length c')]) (fun _ => W) (fun i => i ≤ xs.length) (fun i => xs.length - i) 0 (by omega) (by repeat (first | exact less_nil | refine less_cons rfl ?_)) rfl ?_
    intro i hi
    repeat' (first
      | refine s_pure tabOk rfl rfl rfl rfl ?_
      | refine aops_nil ?_
      | refine thn_normal ?_
      | refine aw_seq ?_
      | refine aw_reg ?_
      | refine s_pass rfl rfl rfl ?_
      | refine s_len tabOk rfl rfl rfl rfl ?_
      | refine aw_true rfl ?_
      | refine aw_false rfl ?_
      | refine aw_block ?_
      | refine aw_skip ?_
      | refine aw_exit ?_
      | refine blk_exit ?_
      | refine blk_exit_other rfl ?_
      | refine blk_normal ?_
      | refine thn_exit ?_
      | refine thn_ret ?_
      | refine blk_ret ?_
      | refine rnd_ret ?_
      | refine rnd_exit ?_
      | refine aw_ret ?_
      | refine s_arith tabOk rfl rfl rfl rfl (by simp only [InR]; omega) ?_
      | ((fail_if_success refine s_told rfl rfl ?_); refine s_part rfl rfl rfl ?_ ?_ <;> intro hc <;> (first | replace hc := of_decide_eq_true hc | replace hc := of_decide_eq_false hc | replace hc := eq_of_beq hc | skip))
      | (refine aw_if rfl ?_ ?_ <;> intro hc <;> (first | replace hc := of_decide_eq_true hc | replace hc := of_decide_eq_false hc | replace hc := eq_of_beq hc | skip))
      | refine s_index1 tabOk rfl rfl rfl rfl (by omega) (by omega) ?_)
    all_goals try (exfalso; omega)
    · obtain ⟨b, off, b', off', rfl, rfl, hr, hr'⟩ := hrd i (by omega)
      (refine aw_quiet followsMixed lx (by kernel_rfl) ?_; repeat (first
      | refine q_pure tabOk rfl rfl rfl rfl ?_
      | refine q_len tabOk rfl rfl rfl rfl ?_
      | refine q_pass rfl rfl rfl ?_
      | refine q_index1 tabOk rfl rfl rfl rfl (by omega) (by omega) ?_
      | refine q_arith tabOk rfl rfl rfl rfl (by simp only [InR]; omega) ?_))
      refine q_loadf tabOk rfl rfl rfl rfl (hr _ (by omega)) ?_
      repeat (first
      | refine q_pure tabOk rfl rfl rfl rfl ?_
      | refine q_len tabOk rfl rfl rfl rfl ?_
      | refine q_pass rfl rfl rfl ?_
      | refine q_index1 tabOk rfl rfl rfl rfl (by omega) (by omega) ?_
      | refine q_arith tabOk rfl rfl rfl rfl (by simp only [InR]; omega) ?_)
      refine q_loadf tabOk rfl rfl rfl rfl (hr' _ (by omega)) ?_
      repeat (first
      | refine q_pure tabOk rfl rfl rfl rfl ?_
      | refine q_len tabOk rfl rfl rfl rfl ?_
      | refine q_pass rfl rfl rfl ?_
      | refine q_index1 tabOk rfl rfl rfl rfl (by omega) (by omega) ?_
      | refine q_arith tabOk rfl rfl rfl rfl (by simp only [InR]; omega) ?_)
      refine q_call rfl rfl rfl rfl ent27 (c_laws_sameFloat ) ?_
      repeat (first
      | refine q_pure tabOk rfl rfl rfl rfl ?_
      | refine q_len tabOk rfl rfl rfl rfl ?_
      | refine q_pass rfl rfl rfl ?_
      | refine q_index1 tabOk rfl rfl rfl rfl (by omega) (by omega) ?_
      | refine q_arith tabOk rfl rfl rfl rfl (by simp only [InR]; omega) ?_)
      refine aq_nil (thn_normal ?_)
      repeat' (first
      | refine s_pure tabOk rfl rfl rfl rfl ?_
      | refine aops_nil ?_
      | refine thn_normal ?_
      | refine aw_seq ?_
      | refine aw_reg ?_
      | refine s_pass rfl rfl rfl ?_
      | refine s_len tabOk rfl rfl rfl rfl ?_
      | refine aw_true rfl ?_
      | refine aw_false rfl ?_
      | refine aw_block ?_
      | refine aw_skip ?_
      | refine aw_exit ?_
      | refine blk_exit ?_
      | refine blk_exit_other rfl ?_
      | refine blk_normal ?_
      | refine thn_exit ?_
      | refine thn_ret ?_
      | refine blk_ret ?_
      | refine rnd_ret ?_
      | refine rnd_exit ?_
      | refine aw_ret ?_
      | refine s_arith tabOk rfl rfl rfl rfl (by simp only [InR]; omega) ?_
      | ((fail_if_success refine s_told rfl rfl ?_); refine s_part rfl rfl rfl ?_ ?_ <;> intro hc <;> (first | replace hc := of_decide_eq_true hc | replace hc := of_decide_eq_false hc | replace hc := eq_of_beq hc | skip))
      | (refine aw_if rfl ?_ ?_ <;> intro hc <;> (first | replace hc := of_decide_eq_true hc | replace hc := of_decide_eq_false hc | replace hc := eq_of_beq hc | skip))
      | refine s_index1 tabOk rfl rfl rfl rfl (by omega) (by omega) ?_)
      refine rnd_next (i + 1) (by omega) (by omega) (by repeat (first | exact less_nil | refine less_cons rfl ?_)) rfl
    · exact retK_ret tabOk (congrArg Array.toList Tryz.results14) (rv_tmp rfl rfl rv_nil) ⟨rfl, rfl⟩
theorem all_getD {p : Nat → Bool} {xs : List Nat} (h : ∀ j, j < xs.length → p (xs.getD j 0) = true) : xs.all p = true := by
  rw [List.all_eq_true]
  intro x hx
  obtain ⟨i, hi, rfl⟩ := List.getElem_of_mem hx
  have := h i hi
  simpa [List.getD_eq_getElem?_getD, hi] using this
end
end Go.Proofs.YthdnepjajhjmlaaGreatDoor
namespace Go.Proofs.YthdnepjajhjmlaaGreatDoor
set_option linter.unusedSimpArgs false
set_option linter.unusedVariables false
open Go Cn Go.RowKit
section
variable {B : Nat} {W : World}
theorem SlF.form {v : Value} {xs : List Nat} (hv : SlF W v xs) : ∃ a c, v = .slice a xs.length c := by
  rcases hv with ⟨rfl, rfl⟩ | ⟨b, off, c, rfl, hr⟩
  · exact ⟨_, _, rfl⟩
  · exact ⟨_, _, rfl⟩
theorem SlF.read {a : Option Addr} {n c : Nat} {xs : List Nat} (hv : SlF W (.slice a n c) xs) (h : 0 < xs.length) : ∃ b off, a = some ⟨b, off, none⟩ ∧ RdF W b off xs := by
  rcases hv with ⟨h1, rfl⟩ | ⟨b, off, c, h1, hr⟩
  · simp at h
  · cases h1; exact ⟨_, _, rfl, hr⟩
end
end Go.Proofs.YthdnepjajhjmlaaGreatDoor
namespace Go.Proofs.YthdnepjajhjmlaaGreatDoor
set_option linter.unusedSimpArgs false
set_option linter.unusedVariables false
open Go Cn Go.RowKit
/-- a list of 32-bit numbers that the call owns -/
def OwnF (W : World) (base : Nat) (v : Value) (xs : List Nat) : Prop := W.ownsRow base 47 1 v xs.length (xs.map (.float .f32)) ∧ CanF xs
theorem OwnF.sl {W : World} {base : Nat} {v : Value} {xs : List Nat} (h : OwnF W base v xs) : SlF W v xs := by
  obtain ⟨⟨-, h1⟩, h2⟩ := h
  rcases h1 with ⟨rfl, h0⟩ | ⟨g, cap, cur, rfl, -, hh, -, -, -, hx⟩
  · exact .inl ⟨rfl, List.length_eq_zero_iff.1 h0⟩
  · refine .inr ⟨g, 0, cap, rfl, rdF_block hh h2 fun i hi => ?_⟩
    have : (cur.toList.take (xs.length * 1))[i]? = some (.float .f32 (xs.getD i 0)) := by
      rw [hx]; simp [List.getD_eq_getElem?_getD, hi]
    rw [List.getElem?_take, if_pos (by omega)] at this
    simpa using this
theorem OwnF.nil (W : World) (base : Nat) : OwnF W base (.slice none 0 0) [] := ⟨World.ownsRow_nil _ _ _ _, fun i hi => by simp at hi⟩
theorem OwnF.new {W : World} {base : Nat} (h : base ≤ W.heap.size) : OwnF (W.alloc (.cells #[] 47)) base (.slice (some ⟨W.heap.size, 0, none⟩) 0 0) [] :=
  ⟨⟨rfl, .inr ⟨W.heap.size, 0, #[], rfl, h, heap_alloc_new W _, by simp, by decide, rfl, rfl⟩⟩, fun i hi => by simp at hi⟩
theorem OwnF.push {W : World} {base : Nat} {v : Value} {xs : List Nat} {x : Nat} (hx : cb .f32 x = x) (hc : CanF xs) (h : W.ownsRow base 47 1 v (xs.length + 1) (xs.map (.float .f32) ++ ([Value.float .f32 x]).map cl)) : OwnF W base v (xs ++ [x]) := by
  refine ⟨?_, ?_⟩
  · simp only [List.map_cons, List.map_nil, cl, hx] at h
    simpa using h
  · intro i hi
    by_cases h1 : i < xs.length
    · have := hc i h1
      simpa [List.getD_eq_getElem?_getD, List.getElem?_append_left h1, h1] using this
    · have h2 : i = xs.length := by simp at hi; omega
      subst h2
      simpa [List.getD_eq_getElem?_getD] using hx
theorem cb_fop (op : BinOp) (k : FloatKind) (x y : Nat) : cb k (fop op k x y) = fop op k x y := by
  unfold fop
  cases floatBits op k x y with
  | none => simp [cb_qnan]
  | some r => simp [cb_cb]
section push
variable {P : Program} {N B : Nat} {E : Env} {W : World} {ops : Array Oper} {K : Exit → Env → World → Prop} {D : World → Prop} {T : Tab} {i : Nat} {rest : List Nat} {d : Nat} {op : Op} {ty : TypeId} {pos : String} {aft : Array Edge} {g : Option (Nat × Bool)}
end push
section
variable {B : Nat} {W : World}
end
end Go.Proofs.YthdnepjajhjmlaaGreatDoor
namespace Go.Proofs.YthdnepjajhjmlaaGreatDoor
set_option linter.unusedSimpArgs false
set_option linter.unusedVariables false
open Go Cn Go.ChangeShapes Go.WideShapes Go.ChangeAt Go.RowKit

section
variable {H : Type} {enc : TypeId × Value → H} {P : Program} {W W' : World}
/-- words of 32 bits -/
def Bd (xs : List Nat) : Prop := ∀ x ∈ xs, x < 4294967296
theorem cb_lt {x : Nat} (h : x < 4294967296) : cb .f32 x < 4294967296 := by
  unfold cb
  split
  · decide
  · exact h
end
end Go.Proofs.YthdnepjajhjmlaaGreatDoor
namespace Go.Proofs.YthdnepjajhjmlaaGreatDoor
set_option linter.unusedSimpArgs false
set_option linter.unusedVariables false
open Go Cn Go.RowKit
/-- a record by what it says -/
def RecA (W : World) (v : Value) (s : ByteArray) (st sp : Int) (xs : List Nat) : Prop := ∃ a c, v = .agg #[.string s, .int .i64 st, .int .i64 sp, .slice a xs.length c] ∧ SlF W (.slice a xs.length c) xs
theorem RecA.below {W W' : World} {v : Value} {s : ByteArray} {st sp : Int} {xs : List Nat} (h : RecA W v s st sp xs) (hb : Below W.heap.size W W') : RecA W' v s st sp xs := by
  obtain ⟨a, c, h1, h2⟩ := h
  exact ⟨a, c, h1, h2.below hb⟩
section
variable {B : Nat} {W : World}
theorem SlF.same {W W' : World} {b : Nat} {v : Value} {xs : List Nat} (h : SlF W v xs) (s : Same b W W') (hne : ∀ a n c, v = .slice (some a) n c → a.block ≠ b) : SlF W' v xs := by
  rcases h with h | ⟨b', off, c, h1, h2⟩
  · exact .inl h
  · refine .inr ⟨b', off, c, h1, fun i hi => ?_⟩
    obtain ⟨y, h3, h4⟩ := h2 i hi
    have hq : b' ≠ b := hne _ _ _ h1
    exact ⟨y, by rw [s.cell (a := ⟨b', off + i, none⟩) hq]; exact h3, h4⟩
/-! ### names, good records -/
end
end Go.Proofs.YthdnepjajhjmlaaGreatDoor
namespace Go.Proofs.YthdnepjajhjmlaaGreatDoor
set_option linter.unusedSimpArgs false
set_option linter.unusedVariables false
open Go Cn Go.RowKit
/-! ### numbers -/
@[irreducible] def wordOf (x : Nat) : Int := if fcmp .neq .f32 x x then 2143289344 else x
theorem wordOf_range {x : Nat} (h : x < 4294967296) : 0 ≤ wordOf x ∧ wordOf x < 4294967296 := by
  unfold wordOf
  split <;> omega
end Go.Proofs.YthdnepjajhjmlaaGreatDoor
namespace Go.Proofs.YthdnepjajhjmlaaGreatDoor
set_option linter.unusedSimpArgs false
set_option linter.unusedVariables false
open Go Cn Go.RowKit
theorem word_of_nonan {b x : Nat} (h : cb .f32 b = x) (hc : fcmp .neq .f32 x x = false) : b = x := by
  subst h
  rw [neq_self] at hc
  unfold cb at hc ⊢
  split
  · rename_i hn
    rw [if_pos hn] at hc
    rw [qnan_nan] at hc; cases hc
  · rfl
section
variable {B : Nat} {W : World}
theorem c_spec_l01Bits {x : Nat} (hx : x < 4294967296) : ACalls Tryz.prog B 30 [.float .f32 x] W (fun r W' => r = .int .i64 (wordOf x) ∧ W' = W) := by
  refine acalls_of Tryz.func30 rfl Tryz.ntmps30 (Nat.le_of_ble_eq_true rfl) ?_
  repeat' (first
      | refine s_pure tabOk rfl rfl rfl rfl ?_
      | refine aops_nil ?_
      | refine thn_normal ?_
      | refine aw_seq ?_
      | refine aw_reg ?_
      | refine s_pass rfl rfl rfl ?_
      | refine s_len tabOk rfl rfl rfl rfl ?_
      | refine aw_true rfl ?_
      | refine aw_false rfl ?_
      | refine aw_block ?_
      | refine aw_skip ?_
      | refine aw_exit ?_
      | refine blk_exit ?_
      | refine blk_exit_other rfl ?_
      | refine blk_normal ?_
      | refine thn_exit ?_
      | refine thn_ret ?_
      | refine blk_ret ?_
      | refine rnd_ret ?_
      | refine rnd_exit ?_
      | refine aw_ret ?_
      | refine s_arith tabOk rfl rfl rfl rfl (by simp only [InR]; omega) ?_
      | ((fail_if_success refine s_told rfl rfl ?_); refine s_part rfl rfl rfl ?_ ?_ <;> intro hc <;> (first | replace hc := of_decide_eq_true hc | replace hc := of_decide_eq_false hc | replace hc := eq_of_beq hc | skip))
      | (refine aw_if rfl ?_ ?_ <;> intro hc <;> (first | replace hc := of_decide_eq_true hc | replace hc := of_decide_eq_false hc | replace hc := eq_of_beq hc | skip))
      | refine s_index1 tabOk rfl rfl rfl rfl (by omega) (by omega) ?_)
  · exact retK_ret tabOk (congrArg Array.toList Tryz.results30) (rv_tmp rfl rfl rv_nil) ⟨by unfold wordOf; rw [if_pos hc]; rfl, rfl⟩
  · refine s_ext rfl rfl rfl rfl (x_math_Float32bits _) ?_
    rintro _ W ⟨⟨b, rfl, hb⟩, rfl⟩
    have := word_of_nonan hb hc
    subst this
    repeat' (first
      | refine s_pure tabOk rfl rfl rfl rfl ?_
      | refine aops_nil ?_
      | refine thn_normal ?_
      | refine aw_seq ?_
      | refine aw_reg ?_
      | refine s_pass rfl rfl rfl ?_
      | refine s_len tabOk rfl rfl rfl rfl ?_
      | refine aw_true rfl ?_
      | refine aw_false rfl ?_
      | refine aw_block ?_
      | refine aw_skip ?_
      | refine aw_exit ?_
      | refine blk_exit ?_
      | refine blk_exit_other rfl ?_
      | refine blk_normal ?_
      | refine thn_exit ?_
      | refine thn_ret ?_
      | refine blk_ret ?_
      | refine rnd_ret ?_
      | refine rnd_exit ?_
      | refine aw_ret ?_
      | refine s_arith tabOk rfl rfl rfl rfl (by simp only [InR]; omega) ?_
      | ((fail_if_success refine s_told rfl rfl ?_); refine s_part rfl rfl rfl ?_ ?_ <;> intro hc <;> (first | replace hc := of_decide_eq_true hc | replace hc := of_decide_eq_false hc | replace hc := eq_of_beq hc | skip))
      | (refine aw_if rfl ?_ ?_ <;> intro hc <;> (first | replace hc := of_decide_eq_true hc | replace hc := of_decide_eq_false hc | replace hc := eq_of_beq hc | skip))
      | refine s_index1 tabOk rfl rfl rfl rfl (by omega) (by omega) ?_)
    exact retK_ret tabOk (congrArg Array.toList Tryz.results30) (rv_tmp rfl rfl rv_nil) ⟨by unfold wordOf; rw [if_neg (by simp [hc])]; rfl, rfl⟩
theorem c_impl_BitsOf {x : Nat} (hx : x < 4294967296) : ACalls Tryz.prog B 58 [.float .f32 x] W (fun r W' => r = .int .i64 (wordOf x) ∧ W' = W) := by
  refine acalls_of Tryz.func58 rfl Tryz.ntmps58 (Nat.le_of_ble_eq_true rfl) ?_
  repeat' (first
      | refine s_pure tabOk rfl rfl rfl rfl ?_
      | refine aops_nil ?_
      | refine thn_normal ?_
      | refine aw_seq ?_
      | refine aw_reg ?_
      | refine s_pass rfl rfl rfl ?_
      | refine s_len tabOk rfl rfl rfl rfl ?_
      | refine aw_true rfl ?_
      | refine aw_false rfl ?_
      | refine aw_block ?_
      | refine aw_skip ?_
      | refine aw_exit ?_
      | refine blk_exit ?_
      | refine blk_exit_other rfl ?_
      | refine blk_normal ?_
      | refine thn_exit ?_
      | refine thn_ret ?_
      | refine blk_ret ?_
      | refine rnd_ret ?_
      | refine rnd_exit ?_
      | refine aw_ret ?_
      | refine s_arith tabOk rfl rfl rfl rfl (by simp only [InR]; omega) ?_
      | ((fail_if_success refine s_told rfl rfl ?_); refine s_part rfl rfl rfl ?_ ?_ <;> intro hc <;> (first | replace hc := of_decide_eq_true hc | replace hc := of_decide_eq_false hc | replace hc := eq_of_beq hc | skip))
      | (refine aw_if rfl ?_ ?_ <;> intro hc <;> (first | replace hc := of_decide_eq_true hc | replace hc := of_decide_eq_false hc | replace hc := eq_of_beq hc | skip))
      | refine s_index1 tabOk rfl rfl rfl rfl (by omega) (by omega) ?_)
  · exact retK_ret tabOk (congrArg Array.toList Tryz.results58) (rv_tmp rfl rfl rv_nil) ⟨by unfold wordOf; rw [if_pos hc]; rfl, rfl⟩
  · refine s_ext rfl rfl rfl rfl (x_math_Float32bits _) ?_
    rintro _ W ⟨⟨b, rfl, hb⟩, rfl⟩
    have := word_of_nonan hb hc
    subst this
    repeat' (first
      | refine s_pure tabOk rfl rfl rfl rfl ?_
      | refine aops_nil ?_
      | refine thn_normal ?_
      | refine aw_seq ?_
      | refine aw_reg ?_
      | refine s_pass rfl rfl rfl ?_
      | refine s_len tabOk rfl rfl rfl rfl ?_
      | refine aw_true rfl ?_
      | refine aw_false rfl ?_
      | refine aw_block ?_
      | refine aw_skip ?_
      | refine aw_exit ?_
      | refine blk_exit ?_
      | refine blk_exit_other rfl ?_
      | refine blk_normal ?_
      | refine thn_exit ?_
      | refine thn_ret ?_
      | refine blk_ret ?_
      | refine rnd_ret ?_
      | refine rnd_exit ?_
      | refine aw_ret ?_
      | refine s_arith tabOk rfl rfl rfl rfl (by simp only [InR]; omega) ?_
      | ((fail_if_success refine s_told rfl rfl ?_); refine s_part rfl rfl rfl ?_ ?_ <;> intro hc <;> (first | replace hc := of_decide_eq_true hc | replace hc := of_decide_eq_false hc | replace hc := eq_of_beq hc | skip))
      | (refine aw_if rfl ?_ ?_ <;> intro hc <;> (first | replace hc := of_decide_eq_true hc | replace hc := of_decide_eq_false hc | replace hc := eq_of_beq hc | skip))
      | refine s_index1 tabOk rfl rfl rfl rfl (by omega) (by omega) ?_)
    exact retK_ret tabOk (congrArg Array.toList Tryz.results58) (rv_tmp rfl rfl rv_nil) ⟨by unfold wordOf; rw [if_neg (by simp [hc])]; rfl, rfl⟩
theorem Bd.at {xs : List Nat} (h : Bd xs) {i : Nat} (hi : i < xs.length) : xs.getD i 0 < 4294967296 := by
  have : xs[i] ∈ xs := List.getElem_mem hi
  have := h _ this
  simpa [List.getD_eq_getElem?_getD, hi] using this
end
end Go.Proofs.YthdnepjajhjmlaaGreatDoor
