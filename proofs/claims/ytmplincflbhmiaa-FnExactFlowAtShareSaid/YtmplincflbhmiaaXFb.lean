/- Records packed: both ways. -/
import Derived.Test.YtmplincflbhmiaaXFa
import Derived.Test.YtmplincflbhmiaaFz
import Derived.Test.YtmplincflbhmiaaCn11
import Derived.Test.YtmplincflbhmiaaXFq
import Derived.Test.YtmplincflbhmiaaXGz
import Derived.Test.YtmplincflbhmiaaCn12
namespace Go.Proofs.Ytmplincflbhmiaa
set_option linter.unusedSimpArgs false
set_option linter.unusedVariables false
open Go Cn Go.RowKit

/-! ### what is read stays -/
theorem RdF.mono {W W' : World} {b off : Nat} {xs : List Nat} (h : RdF W b off xs) (hc : ∀ a v, W.cell? a = some v → W'.cell? a = some v) : RdF W' b off xs := by
  intro i hi
  obtain ⟨y, h1, h2⟩ := h i hi
  exact ⟨y, hc _ _ h1, h2⟩
theorem SlF.mono {W W' : World} {v : Value} {xs : List Nat} (h : SlF W v xs) (hc : ∀ a u, W.cell? a = some u → W'.cell? a = some u) : SlF W' v xs := by
  rcases h with h | ⟨b, off, c, h1, h2⟩
  · exact .inl h
  · exact .inr ⟨b, off, c, h1, h2.mono hc⟩
theorem cell_alloc {W : World} {a : Addr} {v : Value} (o : Obj) (h : W.cell? a = some v) : (W.alloc o).cell? a = some v := by
  rw [World.cell?_alloc_lt _ _ _ (World.block_lt_of_cell? _ _ h)]; exact h
theorem SlF.alloc {W : World} {v : Value} {xs : List Nat} (h : SlF W v xs) (o : Obj) : SlF (W.alloc o) v xs := h.mono fun _ _ hc => cell_alloc o hc
theorem SlF.below {W W' : World} {v : Value} {xs : List Nat} (h : SlF W v xs) (hb : Below W.heap.size W W') : SlF W' v xs :=
  h.mono fun a u hc => by rw [hb.cell (World.block_lt_of_cell? _ _ hc)]; exact hc
/-- canonical words -/
def CanF (xs : List Nat) : Prop := ∀ i, i < xs.length → cb .f32 (xs.getD i 0) = xs.getD i 0
theorem SlF.canon {W : World} {v : Value} {xs : List Nat} (h : SlF W v xs) : CanF xs := by
  rcases h with ⟨-, rfl⟩ | ⟨b, off, c, -, h2⟩
  · intro i hi; simp at hi
  · intro i hi; exact h2.canon hi
def fcells (xs : List Nat) : Array Value := (xs.map (Value.float .f32)).toArray
theorem rdF_block {W : World} {b : Nat} {e : TypeId} {f : Nat × Nat} {xs : List Nat} {cur : Array Value} (h : W.heap[b]? = some (.cells cur e f)) (hc : CanF xs) (hx : ∀ i, i < xs.length → cur[i]? = some (.float .f32 (xs.getD i 0))) : RdF W b 0 xs := by
  intro i hi
  refine ⟨xs.getD i 0, ?_, hc i hi⟩
  simp [World.cell?, h, hx i hi]
/-! ### copies -/
def cpy (xs : List Nat) (i : Nat) : Array Value := ((xs.take i).map (Value.float .f32) ++ List.replicate (xs.length - i) (Value.float .f32 0)).toArray
theorem cpy_zero (xs : List Nat) : madeCells (zerosOf (.float .f32 0)) xs.length = cpy xs 0 := by
  unfold madeCells cpy zerosOf
  simp only [Value.cells, List.take_zero, List.map_nil, List.nil_append, Nat.sub_zero]
  have hz : (#[Value.float .f32 0].map cl) = #[Value.float .f32 0] := by simp [cl, cb_zero]
  rw [hz]
  apply Array.ext
  · simp
  · intro i h1 h2
    simp [Nat.mod_one]
theorem cpy_full (xs : List Nat) : cpy xs xs.length = fcells xs := by simp [cpy, fcells]
theorem cpy_size (xs : List Nat) (i : Nat) (h : i ≤ xs.length) : (cpy xs i).size = xs.length := by simp [cpy]; omega
theorem splice_one {cur : Array Value} {i : Nat} (h : i < cur.size) (v : Value) (j : Nat) : (splice cur i [v])[j]? = if j = i then some v else cur[j]? := by
  unfold splice
  simp only [List.getElem?_toArray, List.append_assoc, List.length_singleton]
  have hl : (cur.toList.take i).length = i := by simp; omega
  by_cases h1 : j < i
  · rw [List.getElem?_append_left (by omega), if_neg (by omega), List.getElem?_take, if_pos h1]; simp
  · rw [List.getElem?_append_right (by omega), hl]
    by_cases h2 : j = i
    · subst h2; simp
    · rw [if_neg h2]
      rw [show j - i = (j - i - 1) + 1 by omega]
      simp only [List.singleton_append, List.getElem?_cons_succ, List.getElem?_drop]
      rw [show i + 1 + (j - i - 1) = j by omega]
      simp
theorem cpy_get (xs : List Nat) (i j : Nat) (hi : i ≤ xs.length) : (cpy xs i)[j]? = if j < i then some (.float .f32 (xs.getD j 0)) else if j < xs.length then some (.float .f32 0) else none := by
  unfold cpy
  simp only [List.getElem?_toArray]
  have hl : ((xs.take i).map (Value.float .f32)).length = i := by simp; omega
  by_cases h1 : j < i
  · rw [List.getElem?_append_left (by omega), if_pos h1]
    have : j < xs.length := by omega
    simp [h1, List.getD_eq_getElem?_getD, this]
  · rw [List.getElem?_append_right (by omega), hl, if_neg h1]
    by_cases h2 : j < xs.length
    · rw [if_pos h2]; rw [List.getElem?_replicate]; rw [if_pos (by omega)]
    · rw [if_neg h2, List.getElem?_replicate, if_neg (by omega)]
theorem cpy_succ (xs : List Nat) (i : Nat) (h : i < xs.length) : splice (cpy xs i) i [Value.float .f32 (xs.getD i 0)] = cpy xs (i + 1) := by
  apply Array.ext_getElem?
  intro j
  rw [splice_one (by rw [cpy_size xs i (by omega)]; exact h), cpy_get xs (i + 1) j (by omega), cpy_get xs i j (by omega)]
  by_cases h1 : j = i
  · subst h1; rw [if_pos rfl, if_pos (by omega)]
  · rw [if_neg h1]
    by_cases h2 : j < i
    · rw [if_pos h2, if_pos (show j < i + 1 by omega)]
    · rw [if_neg h2, if_neg (show ¬ j < i + 1 by omega)]
theorem setRow_alloc (W : World) (c c' : Array Value) (e : TypeId) : (W.alloc (.cells c e)).setRow W.heap.size c' = W.alloc (.cells c' e) := by
  refine world_ext ?_ rfl rfl rfl rfl
  apply Array.ext_getElem?
  intro k
  by_cases hk : k = W.heap.size
  · subst hk
    rw [setRow_heap _ _ c c' e (0, 0) (heap_alloc_new W _)]
    exact (heap_alloc_new W _).symm
  · rw [setRow_other _ _ _ _ hk]
    by_cases hl : k < W.heap.size
    · rw [Below.heap_alloc W _ k hl, Below.heap_alloc W _ k hl]
    · rw [Array.getElem?_eq_none (by simp; omega), Array.getElem?_eq_none (by simp; omega)]

section
variable {B : Nat} {W : World}
theorem c_laws_toFloat32S {v : Value} {xs : List Nat} (hv : SlF W v xs) (hl : xs.length ≤ 1048576) (hB : B ≤ W.heap.size) :
    ACalls Try.prog B 8 [v] W (fun r W' => r = .slice (some ⟨W.heap.size, 0, none⟩) xs.length xs.length ∧ W' = W.alloc (.cells (fcells xs) 32)) := by
  have hcan := hv.canon
  rcases hv with ⟨rfl, rfl⟩ | ⟨b, off, c, rfl, hr⟩
  · refine acalls_of Try.func8 rfl Try.ntmps8 (Nat.le_of_ble_eq_true rfl) ?_
    repeat' (first
      | refine s_pure tabOk rfl rfl rfl rfl ?_
      | refine aops_nil ?_
      | refine thn_normal ?_
      | refine aw_seq ?_
      | refine aw_reg ?_
      | refine s_pass rfl rfl rfl ?_
      | refine s_len tabOk rfl rfl rfl rfl ?_
      | refine aw_true rfl ?_
      | refine aw_false rfl ?_
      | refine aw_block ?_
      | refine aw_skip ?_
      | refine aw_exit ?_
      | refine blk_exit ?_
      | refine blk_exit_other rfl ?_
      | refine blk_normal ?_
      | refine thn_exit ?_
      | refine thn_ret ?_
      | refine blk_ret ?_
      | refine rnd_ret ?_
      | refine rnd_exit ?_
      | refine aw_ret ?_
      | refine s_arith tabOk rfl rfl rfl rfl (by simp only [InR]; omega) ?_
      | ((fail_if_success refine s_told rfl rfl ?_); refine s_part rfl rfl rfl ?_ ?_ <;> intro hc <;> (first | replace hc := of_decide_eq_true hc | replace hc := of_decide_eq_false hc | replace hc := eq_of_beq hc | skip))
      | (refine aw_if rfl ?_ ?_ <;> intro hc <;> (first | replace hc := of_decide_eq_true hc | replace hc := of_decide_eq_false hc | replace hc := eq_of_beq hc | skip))
      | refine s_index1 tabOk rfl rfl rfl rfl (by omega) (by omega) ?_)
    refine s_make tabOk rfl rfl rfl rfl rfl (by decide) (by decide) (by decide) (by decide) (by decide) ?_
    repeat' (first
      | refine s_pure tabOk rfl rfl rfl rfl ?_
      | refine aops_nil ?_
      | refine thn_normal ?_
      | refine aw_seq ?_
      | refine aw_reg ?_
      | refine s_pass rfl rfl rfl ?_
      | refine s_len tabOk rfl rfl rfl rfl ?_
      | refine aw_true rfl ?_
      | refine aw_false rfl ?_
      | refine aw_block ?_
      | refine aw_skip ?_
      | refine aw_exit ?_
      | refine blk_exit ?_
      | refine blk_exit_other rfl ?_
      | refine blk_normal ?_
      | refine thn_exit ?_
      | refine thn_ret ?_
      | refine blk_ret ?_
      | refine rnd_ret ?_
      | refine rnd_exit ?_
      | refine aw_ret ?_
      | refine s_arith tabOk rfl rfl rfl rfl (by simp only [InR]; omega) ?_
      | ((fail_if_success refine s_told rfl rfl ?_); refine s_part rfl rfl rfl ?_ ?_ <;> intro hc <;> (first | replace hc := of_decide_eq_true hc | replace hc := of_decide_eq_false hc | replace hc := eq_of_beq hc | skip))
      | (refine aw_if rfl ?_ ?_ <;> intro hc <;> (first | replace hc := of_decide_eq_true hc | replace hc := of_decide_eq_false hc | replace hc := eq_of_beq hc | skip))
      | refine s_index1 tabOk rfl rfl rfl rfl (by omega) (by omega) ?_)
    refine aw_loop (fun i : Nat => [(4, .int .i64 i), (3, .slice (some ⟨W.heap.size, 0, none⟩) 0 0), (0, .slice none 0 0)]) (fun _ => W.alloc (.cells (fcells []) 32)) (fun i => i = 0) (fun _ => 0) 0 rfl (by repeat (first | exact less_nil | refine less_cons rfl ?_)) (by simp [madeCells, fcells, Array.range_zero']) ?_
    rintro i rfl
    repeat' (first
      | refine s_pure tabOk rfl rfl rfl rfl ?_
      | refine aops_nil ?_
      | refine thn_normal ?_
      | refine aw_seq ?_
      | refine aw_reg ?_
      | refine s_pass rfl rfl rfl ?_
      | refine s_len tabOk rfl rfl rfl rfl ?_
      | refine aw_true rfl ?_
      | refine aw_false rfl ?_
      | refine aw_block ?_
      | refine aw_skip ?_
      | refine aw_exit ?_
      | refine blk_exit ?_
      | refine blk_exit_other rfl ?_
      | refine blk_normal ?_
      | refine thn_exit ?_
      | refine thn_ret ?_
      | refine blk_ret ?_
      | refine rnd_ret ?_
      | refine rnd_exit ?_
      | refine aw_ret ?_
      | refine s_arith tabOk rfl rfl rfl rfl (by simp only [InR]; omega) ?_
      | ((fail_if_success refine s_told rfl rfl ?_); refine s_part rfl rfl rfl ?_ ?_ <;> intro hc <;> (first | replace hc := of_decide_eq_true hc | replace hc := of_decide_eq_false hc | replace hc := eq_of_beq hc | skip))
      | (refine aw_if rfl ?_ ?_ <;> intro hc <;> (first | replace hc := of_decide_eq_true hc | replace hc := of_decide_eq_false hc | replace hc := eq_of_beq hc | skip))
      | refine s_index1 tabOk rfl rfl rfl rfl (by omega) (by omega) ?_)
    all_goals try (exfalso; omega)
    exact retK_ret tabOk (congrArg Array.toList Try.results8) (rv_tmp rfl rfl rv_nil) ⟨rfl, rfl⟩
  · refine acalls_of Try.func8 rfl Try.ntmps8 (Nat.le_of_ble_eq_true rfl) ?_
    repeat' (first
      | refine s_pure tabOk rfl rfl rfl rfl ?_
      | refine aops_nil ?_
      | refine thn_normal ?_
      | refine aw_seq ?_
      | refine aw_reg ?_
      | refine s_pass rfl rfl rfl ?_
      | refine s_len tabOk rfl rfl rfl rfl ?_
      | refine aw_true rfl ?_
      | refine aw_false rfl ?_
      | refine aw_block ?_
      | refine aw_skip ?_
      | refine aw_exit ?_
      | refine blk_exit ?_
      | refine blk_exit_other rfl ?_
      | refine blk_normal ?_
      | refine thn_exit ?_
      | refine thn_ret ?_
      | refine blk_ret ?_
      | refine rnd_ret ?_
      | refine rnd_exit ?_
      | refine aw_ret ?_
      | refine s_arith tabOk rfl rfl rfl rfl (by simp only [InR]; omega) ?_
      | ((fail_if_success refine s_told rfl rfl ?_); refine s_part rfl rfl rfl ?_ ?_ <;> intro hc <;> (first | replace hc := of_decide_eq_true hc | replace hc := of_decide_eq_false hc | replace hc := eq_of_beq hc | skip))
      | (refine aw_if rfl ?_ ?_ <;> intro hc <;> (first | replace hc := of_decide_eq_true hc | replace hc := of_decide_eq_false hc | replace hc := eq_of_beq hc | skip))
      | refine s_index1 tabOk rfl rfl rfl rfl (by omega) (by omega) ?_)
    refine s_make tabOk rfl rfl rfl rfl rfl (by decide) (by omega) (by omega) (by simp; omega) (by omega) ?_
    repeat' (first
      | refine s_pure tabOk rfl rfl rfl rfl ?_
      | refine aops_nil ?_
      | refine thn_normal ?_
      | refine aw_seq ?_
      | refine aw_reg ?_
      | refine s_pass rfl rfl rfl ?_
      | refine s_len tabOk rfl rfl rfl rfl ?_
      | refine aw_true rfl ?_
      | refine aw_false rfl ?_
      | refine aw_block ?_
      | refine aw_skip ?_
      | refine aw_exit ?_
      | refine blk_exit ?_
      | refine blk_exit_other rfl ?_
      | refine blk_normal ?_
      | refine thn_exit ?_
      | refine thn_ret ?_
      | refine blk_ret ?_
      | refine rnd_ret ?_
      | refine rnd_exit ?_
      | refine aw_ret ?_
      | refine s_arith tabOk rfl rfl rfl rfl (by simp only [InR]; omega) ?_
      | ((fail_if_success refine s_told rfl rfl ?_); refine s_part rfl rfl rfl ?_ ?_ <;> intro hc <;> (first | replace hc := of_decide_eq_true hc | replace hc := of_decide_eq_false hc | replace hc := eq_of_beq hc | skip))
      | (refine aw_if rfl ?_ ?_ <;> intro hc <;> (first | replace hc := of_decide_eq_true hc | replace hc := of_decide_eq_false hc | replace hc := eq_of_beq hc | skip))
      | refine s_index1 tabOk rfl rfl rfl rfl (by omega) (by omega) ?_)
    refine aw_loop (fun i : Nat => [(4, .int .i64 i), (3, .slice (some ⟨W.heap.size, 0, none⟩) xs.length xs.length), (0, .slice (some ⟨b, off, none⟩) xs.length c)]) (fun i => W.alloc (.cells (cpy xs i) 32))
      (fun i => i ≤ xs.length) (fun i => xs.length - i) 0 (by omega) (by repeat (first | exact less_nil | refine less_cons rfl ?_)) (by rw [← cpy_zero]; simp) ?_
    intro i hi
    repeat' (first
      | refine s_pure tabOk rfl rfl rfl rfl ?_
      | refine aops_nil ?_
      | refine thn_normal ?_
      | refine aw_seq ?_
      | refine aw_reg ?_
      | refine s_pass rfl rfl rfl ?_
      | refine s_len tabOk rfl rfl rfl rfl ?_
      | refine aw_true rfl ?_
      | refine aw_false rfl ?_
      | refine aw_block ?_
      | refine aw_skip ?_
      | refine aw_exit ?_
      | refine blk_exit ?_
      | refine blk_exit_other rfl ?_
      | refine blk_normal ?_
      | refine thn_exit ?_
      | refine thn_ret ?_
      | refine blk_ret ?_
      | refine rnd_ret ?_
      | refine rnd_exit ?_
      | refine aw_ret ?_
      | refine s_arith tabOk rfl rfl rfl rfl (by simp only [InR]; omega) ?_
      | ((fail_if_success refine s_told rfl rfl ?_); refine s_part rfl rfl rfl ?_ ?_ <;> intro hc <;> (first | replace hc := of_decide_eq_true hc | replace hc := of_decide_eq_false hc | replace hc := eq_of_beq hc | skip))
      | (refine aw_if rfl ?_ ?_ <;> intro hc <;> (first | replace hc := of_decide_eq_true hc | replace hc := of_decide_eq_false hc | replace hc := eq_of_beq hc | skip))
      | refine s_index1 tabOk rfl rfl rfl rfl (by omega) (by omega) ?_)
    all_goals try (exfalso; omega)
    · refine s_loadf tabOk rfl rfl rfl rfl ((hr.mono fun _ _ => cell_alloc _) _ (by omega)) ?_
      repeat' (first
      | refine s_pure tabOk rfl rfl rfl rfl ?_
      | refine aops_nil ?_
      | refine thn_normal ?_
      | refine aw_seq ?_
      | refine aw_reg ?_
      | refine s_pass rfl rfl rfl ?_
      | refine s_len tabOk rfl rfl rfl rfl ?_
      | refine aw_true rfl ?_
      | refine aw_false rfl ?_
      | refine aw_block ?_
      | refine aw_skip ?_
      | refine aw_exit ?_
      | refine blk_exit ?_
      | refine blk_exit_other rfl ?_
      | refine blk_normal ?_
      | refine thn_exit ?_
      | refine thn_ret ?_
      | refine blk_ret ?_
      | refine rnd_ret ?_
      | refine rnd_exit ?_
      | refine aw_ret ?_
      | refine s_arith tabOk rfl rfl rfl rfl (by simp only [InR]; omega) ?_
      | ((fail_if_success refine s_told rfl rfl ?_); refine s_part rfl rfl rfl ?_ ?_ <;> intro hc <;> (first | replace hc := of_decide_eq_true hc | replace hc := of_decide_eq_false hc | replace hc := eq_of_beq hc | skip))
      | (refine aw_if rfl ?_ ?_ <;> intro hc <;> (first | replace hc := of_decide_eq_true hc | replace hc := of_decide_eq_false hc | replace hc := eq_of_beq hc | skip))
      | refine s_index1 tabOk rfl rfl rfl rfl (by omega) (by omega) ?_)
      refine s_store tabOk rfl rfl rfl rfl rfl rfl hB (heap_alloc_new W _) (by rw [cpy_size xs i hi]; omega) ?_
      rw [setRow_alloc]
      simp only [Int.toNat_natCast, Nat.zero_add, Value.cells]
      repeat' (first
      | refine s_pure tabOk rfl rfl rfl rfl ?_
      | refine aops_nil ?_
      | refine thn_normal ?_
      | refine aw_seq ?_
      | refine aw_reg ?_
      | refine s_pass rfl rfl rfl ?_
      | refine s_len tabOk rfl rfl rfl rfl ?_
      | refine aw_true rfl ?_
      | refine aw_false rfl ?_
      | refine aw_block ?_
      | refine aw_skip ?_
      | refine aw_exit ?_
      | refine blk_exit ?_
      | refine blk_exit_other rfl ?_
      | refine blk_normal ?_
      | refine thn_exit ?_
      | refine thn_ret ?_
      | refine blk_ret ?_
      | refine rnd_ret ?_
      | refine rnd_exit ?_
      | refine aw_ret ?_
      | refine s_arith tabOk rfl rfl rfl rfl (by simp only [InR]; omega) ?_
      | ((fail_if_success refine s_told rfl rfl ?_); refine s_part rfl rfl rfl ?_ ?_ <;> intro hc <;> (first | replace hc := of_decide_eq_true hc | replace hc := of_decide_eq_false hc | replace hc := eq_of_beq hc | skip))
      | (refine aw_if rfl ?_ ?_ <;> intro hc <;> (first | replace hc := of_decide_eq_true hc | replace hc := of_decide_eq_false hc | replace hc := eq_of_beq hc | skip))
      | refine s_index1 tabOk rfl rfl rfl rfl (by omega) (by omega) ?_)
      refine rnd_next (i + 1) (by omega) (by omega) (by repeat (first | exact less_nil | refine less_cons rfl ?_)) ?_
      rw [← cpy_succ xs i (by omega)]
    · exact retK_ret tabOk (congrArg Array.toList Try.results8) (rv_tmp rfl rfl rv_nil) ⟨rfl, by rw [show i = xs.length by omega, cpy_full]⟩
end
end Go.Proofs.Ytmplincflbhmiaa
namespace Go.Proofs.Ytmplincflbhmiaa
set_option linter.unusedSimpArgs false
set_option linter.unusedVariables false
open Go Cn Go.RowKit
section
variable {B : Nat} {W : World}
/-- a number and itself -/
theorem c_laws_sameFloat {x : Nat} : ACalls Try.prog B 18 [.float .f64 x, .float .f64 x] W (fun r W' => r = .bool true ∧ W' = W) := by
  refine acalls_of Try.func18 rfl Try.ntmps18 (Nat.le_of_ble_eq_true rfl) ?_
  repeat' (first
      | refine s_pure tabOk rfl rfl rfl rfl ?_
      | refine aops_nil ?_
      | refine thn_normal ?_
      | refine aw_seq ?_
      | refine aw_reg ?_
      | refine s_pass rfl rfl rfl ?_
      | refine s_len tabOk rfl rfl rfl rfl ?_
      | refine aw_true rfl ?_
      | refine aw_false rfl ?_
      | refine aw_block ?_
      | refine aw_skip ?_
      | refine aw_exit ?_
      | refine blk_exit ?_
      | refine blk_exit_other rfl ?_
      | refine blk_normal ?_
      | refine thn_exit ?_
      | refine thn_ret ?_
      | refine blk_ret ?_
      | refine rnd_ret ?_
      | refine rnd_exit ?_
      | refine aw_ret ?_
      | refine s_arith tabOk rfl rfl rfl rfl (by simp only [InR]; omega) ?_
      | ((fail_if_success refine s_told rfl rfl ?_); refine s_part rfl rfl rfl ?_ ?_ <;> intro hc <;> (first | replace hc := of_decide_eq_true hc | replace hc := of_decide_eq_false hc | replace hc := eq_of_beq hc | skip))
      | (refine aw_if rfl ?_ ?_ <;> intro hc <;> (first | replace hc := of_decide_eq_true hc | replace hc := of_decide_eq_false hc | replace hc := eq_of_beq hc | skip))
      | refine s_index1 tabOk rfl rfl rfl rfl (by omega) (by omega) ?_)
  all_goals refine retK_ret tabOk (congrArg Array.toList Try.results18) (rv_tmp rfl rfl rv_nil) ⟨?_, rfl⟩
  all_goals simp_all [retV, neq_self, eql_self]
theorem c_laws_eqFloat32S {v v' : Value} {xs : List Nat} (hv : SlF W v xs) (hv' : SlF W v' xs) (hl : xs.length ≤ 1048576) : ACalls Try.prog B 11 [v, v'] W (fun r W' => r = .bool true ∧ W' = W) := by
  have hx : ∃ a c a' c', v = .slice a xs.length c ∧ v' = .slice a' xs.length c' ∧ (∀ i, i < xs.length → ∃ b off b' off', a = some ⟨b, off, none⟩ ∧ a' = some ⟨b', off', none⟩ ∧ RdF W b off xs ∧ RdF W b' off' xs) := by
    rcases hv with ⟨rfl, rfl⟩ | ⟨b, off, c, rfl, hr⟩ <;> rcases hv' with ⟨rfl, h⟩ | ⟨b', off', c', rfl, hr'⟩
    · exact ⟨_, _, _, _, rfl, rfl, fun i hi => by simp at hi⟩
    · exact ⟨_, _, _, _, rfl, rfl, fun i hi => by simp at hi⟩
    · subst h; exact ⟨_, _, _, _, rfl, rfl, fun i hi => by simp at hi⟩
    · exact ⟨_, _, _, _, rfl, rfl, fun i hi => ⟨_, _, _, _, rfl, rfl, hr, hr'⟩⟩
  obtain ⟨a, c, a', c', rfl, rfl, hrd⟩ := hx
  refine acalls_of Try.func11 rfl Try.ntmps11 (Nat.le_of_ble_eq_true rfl) ?_
  repeat' (first
      | refine s_pure tabOk rfl rfl rfl rfl ?_
      | refine aops_nil ?_
      | refine thn_normal ?_
      | refine aw_seq ?_
      | refine aw_reg ?_
      | refine s_pass rfl rfl rfl ?_
      | refine s_len tabOk rfl rfl rfl rfl ?_
      | refine aw_true rfl ?_
      | refine aw_false rfl ?_
      | refine aw_block ?_
      | refine aw_skip ?_
      | refine aw_exit ?_
      | refine blk_exit ?_
      | refine blk_exit_other rfl ?_
      | refine blk_normal ?_
      | refine thn_exit ?_
      | refine thn_ret ?_
      | refine blk_ret ?_
      | refine rnd_ret ?_
      | refine rnd_exit ?_
      | refine aw_ret ?_
      | refine s_arith tabOk rfl rfl rfl rfl (by simp only [InR]; omega) ?_
      | ((fail_if_success refine s_told rfl rfl ?_); refine s_part rfl rfl rfl ?_ ?_ <;> intro hc <;> (first | replace hc := of_decide_eq_true hc | replace hc := of_decide_eq_false hc | replace hc := eq_of_beq hc | skip))
      | (refine aw_if rfl ?_ ?_ <;> intro hc <;> (first | replace hc := of_decide_eq_true hc | replace hc := of_decide_eq_false hc | replace hc := eq_of_beq hc | skip))
      | refine s_index1 tabOk rfl rfl rfl rfl (by omega) (by omega) ?_)
  · exact absurd hc (by simp)
  · refine aw_loop (fun i : Nat => [(5, .int .i64 i), (0, .slice a xs.length c), (1, .slice a' xs.length c')]) (fun _ => W) (fun i => i ≤ xs.length) (fun i => xs.length - i) 0 (by omega) (by repeat (first | exact less_nil | refine less_cons rfl ?_)) rfl ?_
    intro i hi
    repeat' (first
      | refine s_pure tabOk rfl rfl rfl rfl ?_
      | refine aops_nil ?_
      | refine thn_normal ?_
      | refine aw_seq ?_
      | refine aw_reg ?_
      | refine s_pass rfl rfl rfl ?_
      | refine s_len tabOk rfl rfl rfl rfl ?_
      | refine aw_true rfl ?_
      | refine aw_false rfl ?_
      | refine aw_block ?_
      | refine aw_skip ?_
      | refine aw_exit ?_
      | refine blk_exit ?_
      | refine blk_exit_other rfl ?_
      | refine blk_normal ?_
      | refine thn_exit ?_
      | refine thn_ret ?_
      | refine blk_ret ?_
      | refine rnd_ret ?_
      | refine rnd_exit ?_
      | refine aw_ret ?_
      | refine s_arith tabOk rfl rfl rfl rfl (by simp only [InR]; omega) ?_
      | ((fail_if_success refine s_told rfl rfl ?_); refine s_part rfl rfl rfl ?_ ?_ <;> intro hc <;> (first | replace hc := of_decide_eq_true hc | replace hc := of_decide_eq_false hc | replace hc := eq_of_beq hc | skip))
      | (refine aw_if rfl ?_ ?_ <;> intro hc <;> (first | replace hc := of_decide_eq_true hc | replace hc := of_decide_eq_false hc | replace hc := eq_of_beq hc | skip))
      | refine s_index1 tabOk rfl rfl rfl rfl (by omega) (by omega) ?_)
    all_goals try (exfalso; omega)
    · obtain ⟨b, off, b', off', rfl, rfl, hr, hr'⟩ := hrd i (by omega)
      (refine aw_quiet followsMixed lx (by kernel_rfl) ?_; repeat (first
      | refine q_pure tabOk rfl rfl rfl rfl ?_
      | refine q_len tabOk rfl rfl rfl rfl ?_
      | refine q_pass rfl rfl rfl ?_
      | refine q_index1 tabOk rfl rfl rfl rfl (by omega) (by omega) ?_
      | refine q_arith tabOk rfl rfl rfl rfl (by simp only [InR]; omega) ?_))
      refine q_loadf tabOk rfl rfl rfl rfl (hr _ (by omega)) ?_
      repeat (first
      | refine q_pure tabOk rfl rfl rfl rfl ?_
      | refine q_len tabOk rfl rfl rfl rfl ?_
      | refine q_pass rfl rfl rfl ?_
      | refine q_index1 tabOk rfl rfl rfl rfl (by omega) (by omega) ?_
      | refine q_arith tabOk rfl rfl rfl rfl (by simp only [InR]; omega) ?_)
      refine q_loadf tabOk rfl rfl rfl rfl (hr' _ (by omega)) ?_
      repeat (first
      | refine q_pure tabOk rfl rfl rfl rfl ?_
      | refine q_len tabOk rfl rfl rfl rfl ?_
      | refine q_pass rfl rfl rfl ?_
      | refine q_index1 tabOk rfl rfl rfl rfl (by omega) (by omega) ?_
      | refine q_arith tabOk rfl rfl rfl rfl (by simp only [InR]; omega) ?_)
      refine q_call rfl rfl rfl rfl ent18 (c_laws_sameFloat ) ?_
      repeat (first
      | refine q_pure tabOk rfl rfl rfl rfl ?_
      | refine q_len tabOk rfl rfl rfl rfl ?_
      | refine q_pass rfl rfl rfl ?_
      | refine q_index1 tabOk rfl rfl rfl rfl (by omega) (by omega) ?_
      | refine q_arith tabOk rfl rfl rfl rfl (by simp only [InR]; omega) ?_)
      refine aq_nil (thn_normal ?_)
      repeat' (first
      | refine s_pure tabOk rfl rfl rfl rfl ?_
      | refine aops_nil ?_
      | refine thn_normal ?_
      | refine aw_seq ?_
      | refine aw_reg ?_
      | refine s_pass rfl rfl rfl ?_
      | refine s_len tabOk rfl rfl rfl rfl ?_
      | refine aw_true rfl ?_
      | refine aw_false rfl ?_
      | refine aw_block ?_
      | refine aw_skip ?_
      | refine aw_exit ?_
      | refine blk_exit ?_
      | refine blk_exit_other rfl ?_
      | refine blk_normal ?_
      | refine thn_exit ?_
      | refine thn_ret ?_
      | refine blk_ret ?_
      | refine rnd_ret ?_
      | refine rnd_exit ?_
      | refine aw_ret ?_
      | refine s_arith tabOk rfl rfl rfl rfl (by simp only [InR]; omega) ?_
      | ((fail_if_success refine s_told rfl rfl ?_); refine s_part rfl rfl rfl ?_ ?_ <;> intro hc <;> (first | replace hc := of_decide_eq_true hc | replace hc := of_decide_eq_false hc | replace hc := eq_of_beq hc | skip))
      | (refine aw_if rfl ?_ ?_ <;> intro hc <;> (first | replace hc := of_decide_eq_true hc | replace hc := of_decide_eq_false hc | replace hc := eq_of_beq hc | skip))
      | refine s_index1 tabOk rfl rfl rfl rfl (by omega) (by omega) ?_)
      refine rnd_next (i + 1) (by omega) (by omega) (by repeat (first | exact less_nil | refine less_cons rfl ?_)) rfl
    · exact retK_ret tabOk (congrArg Array.toList Try.results11) (rv_tmp rfl rfl rv_nil) ⟨rfl, rfl⟩
theorem c_impl_isMany {v : Value} {xs : List Nat} (hv : SlF W v xs) (n : Int) : ACalls Try.prog B 61 [v, .int .i64 n] W (fun r W' => r = .bool (decide (n ≤ xs.length) && decide (xs.length ≤ 128)) ∧ W' = W) := by
  have hx : ∃ a c, v = .slice a xs.length c := by
    rcases hv with ⟨rfl, rfl⟩ | ⟨b, off, c, rfl, hr⟩
    · exact ⟨_, _, rfl⟩
    · exact ⟨_, _, rfl⟩
  obtain ⟨a, c, rfl⟩ := hx
  refine acalls_of Try.func61 rfl Try.ntmps61 (Nat.le_of_ble_eq_true rfl) ?_
  repeat' (first
      | refine s_pure tabOk rfl rfl rfl rfl ?_
      | refine aops_nil ?_
      | refine thn_normal ?_
      | refine aw_seq ?_
      | refine aw_reg ?_
      | refine s_pass rfl rfl rfl ?_
      | refine s_len tabOk rfl rfl rfl rfl ?_
      | refine aw_true rfl ?_
      | refine aw_false rfl ?_
      | refine aw_block ?_
      | refine aw_skip ?_
      | refine aw_exit ?_
      | refine blk_exit ?_
      | refine blk_exit_other rfl ?_
      | refine blk_normal ?_
      | refine thn_exit ?_
      | refine thn_ret ?_
      | refine blk_ret ?_
      | refine rnd_ret ?_
      | refine rnd_exit ?_
      | refine aw_ret ?_
      | refine s_arith tabOk rfl rfl rfl rfl (by simp only [InR]; omega) ?_
      | ((fail_if_success refine s_told rfl rfl ?_); refine s_part rfl rfl rfl ?_ ?_ <;> intro hc <;> (first | replace hc := of_decide_eq_true hc | replace hc := of_decide_eq_false hc | replace hc := eq_of_beq hc | skip))
      | (refine aw_if rfl ?_ ?_ <;> intro hc <;> (first | replace hc := of_decide_eq_true hc | replace hc := of_decide_eq_false hc | replace hc := eq_of_beq hc | skip))
      | refine s_index1 tabOk rfl rfl rfl rfl (by omega) (by omega) ?_)
  refine s_call rfl rfl rfl rfl ent65 (c_impl_within _ _ _) ?_
  rintro _ _ ⟨rfl, rfl⟩
  repeat' (first
      | refine s_pure tabOk rfl rfl rfl rfl ?_
      | refine aops_nil ?_
      | refine thn_normal ?_
      | refine aw_seq ?_
      | refine aw_reg ?_
      | refine s_pass rfl rfl rfl ?_
      | refine s_len tabOk rfl rfl rfl rfl ?_
      | refine aw_true rfl ?_
      | refine aw_false rfl ?_
      | refine aw_block ?_
      | refine aw_skip ?_
      | refine aw_exit ?_
      | refine blk_exit ?_
      | refine blk_exit_other rfl ?_
      | refine blk_normal ?_
      | refine thn_exit ?_
      | refine thn_ret ?_
      | refine blk_ret ?_
      | refine rnd_ret ?_
      | refine rnd_exit ?_
      | refine aw_ret ?_
      | refine s_arith tabOk rfl rfl rfl rfl (by simp only [InR]; omega) ?_
      | ((fail_if_success refine s_told rfl rfl ?_); refine s_part rfl rfl rfl ?_ ?_ <;> intro hc <;> (first | replace hc := of_decide_eq_true hc | replace hc := of_decide_eq_false hc | replace hc := eq_of_beq hc | skip))
      | (refine aw_if rfl ?_ ?_ <;> intro hc <;> (first | replace hc := of_decide_eq_true hc | replace hc := of_decide_eq_false hc | replace hc := eq_of_beq hc | skip))
      | refine s_index1 tabOk rfl rfl rfl rfl (by omega) (by omega) ?_)
  exact retK_ret tabOk (congrArg Array.toList Try.results61) (rv_tmp rfl rfl rv_nil) ⟨by simp only [retV]; congr 2; exact decide_eq_decide.2 (by omega), rfl⟩
@[irreducible] def gauge (xs : List Nat) : Bool := decide (1 ≤ xs.length) && decide (xs.length ≤ 128) && xs.all least
theorem gauge_no {xs : List Nat} (i : Nat) (hi : i < xs.length) (h : least (xs.getD i 0) = false) : gauge xs = false := by
  have : xs.all least = false := by
    rw [List.all_eq_false]
    refine ⟨xs[i], List.getElem_mem hi, ?_⟩
    simpa [List.getD_eq_getElem?_getD, hi] using h
  simp [gauge, this]
theorem all_getD {p : Nat → Bool} {xs : List Nat} (h : ∀ j, j < xs.length → p (xs.getD j 0) = true) : xs.all p = true := by
  rw [List.all_eq_true]
  intro x hx
  obtain ⟨i, hi, rfl⟩ := List.getElem_of_mem hx
  have := h i hi
  simpa [List.getD_eq_getElem?_getD, hi] using this
theorem gauge_few {xs : List Nat} (h : ¬ (1 ≤ xs.length ∧ xs.length ≤ 128)) : gauge xs = false := by
  unfold gauge
  by_cases h1 : 1 ≤ xs.length
  · have : ¬ xs.length ≤ 128 := fun h2 => h ⟨h1, h2⟩
    simp [this]
  · simp [h1]
theorem c_impl_IsGauge {v : Value} {xs : List Nat} (hv : SlF W v xs) (hl : xs.length ≤ 1048576) : ACalls Try.prog B 50 [v] W (fun r W' => r = .bool (gauge xs) ∧ W' = W) := by
  refine acalls_of Try.func50 rfl Try.ntmps50 (Nat.le_of_ble_eq_true rfl) ?_
  repeat' (first
      | refine s_pure tabOk rfl rfl rfl rfl ?_
      | refine aops_nil ?_
      | refine thn_normal ?_
      | refine aw_seq ?_
      | refine aw_reg ?_
      | refine s_pass rfl rfl rfl ?_
      | refine s_len tabOk rfl rfl rfl rfl ?_
      | refine aw_true rfl ?_
      | refine aw_false rfl ?_
      | refine aw_block ?_
      | refine aw_skip ?_
      | refine aw_exit ?_
      | refine blk_exit ?_
      | refine blk_exit_other rfl ?_
      | refine blk_normal ?_
      | refine thn_exit ?_
      | refine thn_ret ?_
      | refine blk_ret ?_
      | refine rnd_ret ?_
      | refine rnd_exit ?_
      | refine aw_ret ?_
      | refine s_arith tabOk rfl rfl rfl rfl (by simp only [InR]; omega) ?_
      | ((fail_if_success refine s_told rfl rfl ?_); refine s_part rfl rfl rfl ?_ ?_ <;> intro hc <;> (first | replace hc := of_decide_eq_true hc | replace hc := of_decide_eq_false hc | replace hc := eq_of_beq hc | skip))
      | (refine aw_if rfl ?_ ?_ <;> intro hc <;> (first | replace hc := of_decide_eq_true hc | replace hc := of_decide_eq_false hc | replace hc := eq_of_beq hc | skip))
      | refine s_index1 tabOk rfl rfl rfl rfl (by omega) (by omega) ?_)
  refine s_call rfl rfl rfl rfl ent61 (c_impl_isMany hv _) ?_
  rintro _ _ ⟨rfl, rfl⟩
  repeat' (first
      | refine s_pure tabOk rfl rfl rfl rfl ?_
      | refine aops_nil ?_
      | refine thn_normal ?_
      | refine aw_seq ?_
      | refine aw_reg ?_
      | refine s_pass rfl rfl rfl ?_
      | refine s_len tabOk rfl rfl rfl rfl ?_
      | refine aw_true rfl ?_
      | refine aw_false rfl ?_
      | refine aw_block ?_
      | refine aw_skip ?_
      | refine aw_exit ?_
      | refine blk_exit ?_
      | refine blk_exit_other rfl ?_
      | refine blk_normal ?_
      | refine thn_exit ?_
      | refine thn_ret ?_
      | refine blk_ret ?_
      | refine rnd_ret ?_
      | refine rnd_exit ?_
      | refine aw_ret ?_
      | refine s_arith tabOk rfl rfl rfl rfl (by simp only [InR]; omega) ?_
      | ((fail_if_success refine s_told rfl rfl ?_); refine s_part rfl rfl rfl ?_ ?_ <;> intro hc <;> (first | replace hc := of_decide_eq_true hc | replace hc := of_decide_eq_false hc | replace hc := eq_of_beq hc | skip))
      | (refine aw_if rfl ?_ ?_ <;> intro hc <;> (first | replace hc := of_decide_eq_true hc | replace hc := of_decide_eq_false hc | replace hc := eq_of_beq hc | skip))
      | refine s_index1 tabOk rfl rfl rfl rfl (by omega) (by omega) ?_)
  · refine s_call rfl rfl rfl rfl ent86 (c_impl_areMasses hv hl) ?_
    rintro _ _ ⟨rfl, rfl⟩
    repeat' (first
      | refine s_pure tabOk rfl rfl rfl rfl ?_
      | refine aops_nil ?_
      | refine thn_normal ?_
      | refine aw_seq ?_
      | refine aw_reg ?_
      | refine s_pass rfl rfl rfl ?_
      | refine s_len tabOk rfl rfl rfl rfl ?_
      | refine aw_true rfl ?_
      | refine aw_false rfl ?_
      | refine aw_block ?_
      | refine aw_skip ?_
      | refine aw_exit ?_
      | refine blk_exit ?_
      | refine blk_exit_other rfl ?_
      | refine blk_normal ?_
      | refine thn_exit ?_
      | refine thn_ret ?_
      | refine blk_ret ?_
      | refine rnd_ret ?_
      | refine rnd_exit ?_
      | refine aw_ret ?_
      | refine s_arith tabOk rfl rfl rfl rfl (by simp only [InR]; omega) ?_
      | ((fail_if_success refine s_told rfl rfl ?_); refine s_part rfl rfl rfl ?_ ?_ <;> intro hc <;> (first | replace hc := of_decide_eq_true hc | replace hc := of_decide_eq_false hc | replace hc := eq_of_beq hc | skip))
      | (refine aw_if rfl ?_ ?_ <;> intro hc <;> (first | replace hc := of_decide_eq_true hc | replace hc := of_decide_eq_false hc | replace hc := eq_of_beq hc | skip))
      | refine s_index1 tabOk rfl rfl rfl rfl (by omega) (by omega) ?_)
    refine retK_ret tabOk (congrArg Array.toList Try.results50) (rv_tmp rfl rfl rv_nil) ⟨?_, rfl⟩
    simp at hc
    simp only [retV, gauge]
    rw [show decide (1 ≤ xs.length) = true by simp; omega, show decide (xs.length ≤ 128) = true by simp; omega]
    simp
  · refine retK_ret tabOk (congrArg Array.toList Try.results50) (rv_tmp rfl rfl rv_nil) ⟨?_, rfl⟩
    rw [gauge_few (by simp at hc; omega)]; rfl
theorem c_spec_l07Gauge {v : Value} {xs : List Nat} (hv : SlF W v xs) (hl : xs.length ≤ 1048576) : ACalls Try.prog B 48 [v] W (fun r W' => r = .bool (gauge xs) ∧ W' = W) := by
  rcases hv with ⟨rfl, rfl⟩ | ⟨b, off, c, rfl, hr⟩
  · refine acalls_of Try.func48 rfl Try.ntmps48 (Nat.le_of_ble_eq_true rfl) ?_
    repeat (first
      | refine s_pure tabOk rfl rfl rfl rfl ?_
      | refine aops_nil ?_
      | refine thn_normal ?_
      | refine aw_seq ?_
      | refine aw_reg ?_
      | refine s_pass rfl rfl rfl ?_
      | refine s_len tabOk rfl rfl rfl rfl ?_
      | refine aw_true rfl ?_
      | refine aw_false rfl ?_
      | refine aw_block ?_
      | refine aw_skip ?_
      | refine aw_exit ?_
      | refine blk_exit ?_
      | refine blk_exit_other rfl ?_
      | refine blk_normal ?_
      | refine thn_exit ?_
      | refine thn_ret ?_
      | refine blk_ret ?_
      | refine rnd_ret ?_
      | refine rnd_exit ?_
      | refine aw_ret ?_
      | refine s_arith tabOk rfl rfl rfl rfl (by simp only [InR]; omega) ?_)
    refine aw_loop (fun i : Nat => [(4, .int .i64 i), (3, .int .i64 0), (0, .slice none 0 0)]) (fun _ => W) (fun i => i = 0) (fun _ => 0) 0 rfl (by repeat (first | exact less_nil | refine less_cons rfl ?_)) rfl ?_
    rintro i rfl
    repeat (first
      | refine s_pure tabOk rfl rfl rfl rfl ?_
      | refine aops_nil ?_
      | refine thn_normal ?_
      | refine aw_seq ?_
      | refine aw_reg ?_
      | refine s_pass rfl rfl rfl ?_
      | refine s_len tabOk rfl rfl rfl rfl ?_
      | refine aw_true rfl ?_
      | refine aw_false rfl ?_
      | refine aw_block ?_
      | refine aw_skip ?_
      | refine aw_exit ?_
      | refine blk_exit ?_
      | refine blk_exit_other rfl ?_
      | refine blk_normal ?_
      | refine thn_exit ?_
      | refine thn_ret ?_
      | refine blk_ret ?_
      | refine rnd_ret ?_
      | refine rnd_exit ?_
      | refine aw_ret ?_
      | refine s_arith tabOk rfl rfl rfl rfl (by simp only [InR]; omega) ?_)
    exact retK_ret tabOk (congrArg Array.toList Try.results48) (rv_tmp rfl rfl rv_nil) ⟨by simp [gauge, retV], rfl⟩
  · refine acalls_of Try.func48 rfl Try.ntmps48 (Nat.le_of_ble_eq_true rfl) ?_
    repeat (first
      | refine s_pure tabOk rfl rfl rfl rfl ?_
      | refine aops_nil ?_
      | refine thn_normal ?_
      | refine aw_seq ?_
      | refine aw_reg ?_
      | refine s_pass rfl rfl rfl ?_
      | refine s_len tabOk rfl rfl rfl rfl ?_
      | refine aw_true rfl ?_
      | refine aw_false rfl ?_
      | refine aw_block ?_
      | refine aw_skip ?_
      | refine aw_exit ?_
      | refine blk_exit ?_
      | refine blk_exit_other rfl ?_
      | refine blk_normal ?_
      | refine thn_exit ?_
      | refine thn_ret ?_
      | refine blk_ret ?_
      | refine rnd_ret ?_
      | refine rnd_exit ?_
      | refine aw_ret ?_
      | refine s_arith tabOk rfl rfl rfl rfl (by simp only [InR]; omega) ?_)
    refine aw_loop (fun i : Nat => [(4, .int .i64 i), (3, .int .i64 xs.length), (0, .slice (some ⟨b, off, none⟩) xs.length c)]) (fun _ => W)
      (fun i => i ≤ xs.length ∧ ∀ j, j < i → least (xs.getD j 0) = true) (fun i => xs.length - i) 0 ⟨by omega, by omega⟩ (by repeat (first | exact less_nil | refine less_cons rfl ?_)) rfl ?_
    rintro i ⟨hi, hall⟩
    repeat' (first
      | refine s_pure tabOk rfl rfl rfl rfl ?_
      | refine aops_nil ?_
      | refine thn_normal ?_
      | refine aw_seq ?_
      | refine aw_reg ?_
      | refine s_pass rfl rfl rfl ?_
      | refine s_len tabOk rfl rfl rfl rfl ?_
      | refine aw_true rfl ?_
      | refine aw_false rfl ?_
      | refine aw_block ?_
      | refine aw_skip ?_
      | refine aw_exit ?_
      | refine blk_exit ?_
      | refine blk_exit_other rfl ?_
      | refine blk_normal ?_
      | refine thn_exit ?_
      | refine thn_ret ?_
      | refine blk_ret ?_
      | refine rnd_ret ?_
      | refine rnd_exit ?_
      | refine aw_ret ?_
      | refine s_arith tabOk rfl rfl rfl rfl (by simp only [InR]; omega) ?_
      | ((fail_if_success refine s_told rfl rfl ?_); refine s_part rfl rfl rfl ?_ ?_ <;> intro hc <;> (first | replace hc := of_decide_eq_true hc | replace hc := of_decide_eq_false hc | replace hc := eq_of_beq hc | skip))
      | (refine aw_if rfl ?_ ?_ <;> intro hc <;> (first | replace hc := of_decide_eq_true hc | replace hc := of_decide_eq_false hc | replace hc := eq_of_beq hc | skip))
      | refine s_index1 tabOk rfl rfl rfl rfl (by omega) (by omega) ?_)
    all_goals try (exfalso; omega)
    · refine s_loadf tabOk rfl rfl rfl rfl (hr _ (by omega)) ?_
      repeat' (first
      | refine s_pure tabOk rfl rfl rfl rfl ?_
      | refine aops_nil ?_
      | refine thn_normal ?_
      | refine aw_seq ?_
      | refine aw_reg ?_
      | refine s_pass rfl rfl rfl ?_
      | refine s_len tabOk rfl rfl rfl rfl ?_
      | refine aw_true rfl ?_
      | refine aw_false rfl ?_
      | refine aw_block ?_
      | refine aw_skip ?_
      | refine aw_exit ?_
      | refine blk_exit ?_
      | refine blk_exit_other rfl ?_
      | refine blk_normal ?_
      | refine thn_exit ?_
      | refine thn_ret ?_
      | refine blk_ret ?_
      | refine rnd_ret ?_
      | refine rnd_exit ?_
      | refine aw_ret ?_
      | refine s_arith tabOk rfl rfl rfl rfl (by simp only [InR]; omega) ?_
      | ((fail_if_success refine s_told rfl rfl ?_); refine s_part rfl rfl rfl ?_ ?_ <;> intro hc <;> (first | replace hc := of_decide_eq_true hc | replace hc := of_decide_eq_false hc | replace hc := eq_of_beq hc | skip))
      | (refine aw_if rfl ?_ ?_ <;> intro hc <;> (first | replace hc := of_decide_eq_true hc | replace hc := of_decide_eq_false hc | replace hc := eq_of_beq hc | skip))
      | refine s_index1 tabOk rfl rfl rfl rfl (by omega) (by omega) ?_)
      refine s_call rfl rfl rfl rfl ent85 (c_spec_l02Least _) ?_
      rintro _ _ ⟨rfl, rfl⟩
      repeat' (first
      | refine s_pure tabOk rfl rfl rfl rfl ?_
      | refine aops_nil ?_
      | refine thn_normal ?_
      | refine aw_seq ?_
      | refine aw_reg ?_
      | refine s_pass rfl rfl rfl ?_
      | refine s_len tabOk rfl rfl rfl rfl ?_
      | refine aw_true rfl ?_
      | refine aw_false rfl ?_
      | refine aw_block ?_
      | refine aw_skip ?_
      | refine aw_exit ?_
      | refine blk_exit ?_
      | refine blk_exit_other rfl ?_
      | refine blk_normal ?_
      | refine thn_exit ?_
      | refine thn_ret ?_
      | refine blk_ret ?_
      | refine rnd_ret ?_
      | refine rnd_exit ?_
      | refine aw_ret ?_
      | refine s_arith tabOk rfl rfl rfl rfl (by simp only [InR]; omega) ?_
      | ((fail_if_success refine s_told rfl rfl ?_); refine s_part rfl rfl rfl ?_ ?_ <;> intro hc <;> (first | replace hc := of_decide_eq_true hc | replace hc := of_decide_eq_false hc | replace hc := eq_of_beq hc | skip))
      | (refine aw_if rfl ?_ ?_ <;> intro hc <;> (first | replace hc := of_decide_eq_true hc | replace hc := of_decide_eq_false hc | replace hc := eq_of_beq hc | skip))
      | refine s_index1 tabOk rfl rfl rfl rfl (by omega) (by omega) ?_)
      · refine retK_ret tabOk (congrArg Array.toList Try.results48) (rv_tmp rfl rfl rv_nil) ⟨?_, rfl⟩
        rw [gauge_no (Int.toNat i) (by omega) (by simpa using hc)]; rfl
      · refine rnd_next (i + 1) ⟨by omega, ?_⟩ (by omega) (by repeat (first | exact less_nil | refine less_cons rfl ?_)) rfl
        intro j hj
        by_cases e : j = i
        · subst e; simpa using hc
        · exact hall j (by omega)
    all_goals refine retK_ret tabOk (congrArg Array.toList Try.results48) (rv_tmp rfl rfl rv_nil) ⟨?_, rfl⟩
    · rw [gauge_few (by omega), show decide ((xs.length : Int) ≤ 128) = false by simp; omega]; rfl
    · unfold gauge
      rw [all_getD (fun j hj => hall j (by omega)), show decide (1 ≤ xs.length) = true by simp; omega]
      simp only [retV, Bool.true_and, Bool.and_true]
      congr 1
      exact decide_eq_decide.2 (by omega)
    · rw [gauge_few (by omega)]; rfl
end
end Go.Proofs.Ytmplincflbhmiaa
namespace Go.Proofs.Ytmplincflbhmiaa
set_option linter.unusedSimpArgs false
set_option linter.unusedVariables false
open Go Cn Go.RowKit
section
variable {B : Nat} {W : World}
theorem SlF.form {v : Value} {xs : List Nat} (hv : SlF W v xs) : ∃ a c, v = .slice a xs.length c := by
  rcases hv with ⟨rfl, rfl⟩ | ⟨b, off, c, rfl, hr⟩
  · exact ⟨_, _, rfl⟩
  · exact ⟨_, _, rfl⟩
theorem SlF.read {a : Option Addr} {n c : Nat} {xs : List Nat} (hv : SlF W (.slice a n c) xs) (h : 0 < xs.length) : ∃ b off, a = some ⟨b, off, none⟩ ∧ RdF W b off xs := by
  rcases hv with ⟨h1, rfl⟩ | ⟨b, off, c, h1, hr⟩
  · simp at h
  · cases h1; exact ⟨_, _, rfl, hr⟩
end
end Go.Proofs.Ytmplincflbhmiaa
namespace Go.Proofs.Ytmplincflbhmiaa
set_option linter.unusedSimpArgs false
set_option linter.unusedVariables false
open Go Cn Go.RowKit
/-- a list of 32-bit numbers that the call owns -/
def OwnF (W : World) (base : Nat) (v : Value) (xs : List Nat) : Prop := W.ownsRow base 32 1 v xs.length (xs.map (.float .f32)) ∧ CanF xs
theorem OwnF.sl {W : World} {base : Nat} {v : Value} {xs : List Nat} (h : OwnF W base v xs) : SlF W v xs := by
  obtain ⟨⟨-, h1⟩, h2⟩ := h
  rcases h1 with ⟨rfl, h0⟩ | ⟨g, cap, cur, rfl, -, hh, -, -, -, hx⟩
  · exact .inl ⟨rfl, List.length_eq_zero_iff.1 h0⟩
  · refine .inr ⟨g, 0, cap, rfl, rdF_block hh h2 fun i hi => ?_⟩
    have : (cur.toList.take (xs.length * 1))[i]? = some (.float .f32 (xs.getD i 0)) := by
      rw [hx]; simp [List.getD_eq_getElem?_getD, hi]
    rw [List.getElem?_take, if_pos (by omega)] at this
    simpa using this
theorem OwnF.nil (W : World) (base : Nat) : OwnF W base (.slice none 0 0) [] := ⟨World.ownsRow_nil _ _ _ _, fun i hi => by simp at hi⟩
theorem OwnF.new {W : World} {base : Nat} (h : base ≤ W.heap.size) : OwnF (W.alloc (.cells #[] 32)) base (.slice (some ⟨W.heap.size, 0, none⟩) 0 0) [] :=
  ⟨⟨rfl, .inr ⟨W.heap.size, 0, #[], rfl, h, heap_alloc_new W _, by simp, by decide, rfl, rfl⟩⟩, fun i hi => by simp at hi⟩
theorem OwnF.push {W : World} {base : Nat} {v : Value} {xs : List Nat} {x : Nat} (hx : cb .f32 x = x) (hc : CanF xs) (h : W.ownsRow base 32 1 v (xs.length + 1) (xs.map (.float .f32) ++ ([Value.float .f32 x]).map cl)) : OwnF W base v (xs ++ [x]) := by
  refine ⟨?_, ?_⟩
  · simp only [List.map_cons, List.map_nil, cl, hx] at h
    simpa using h
  · intro i hi
    by_cases h1 : i < xs.length
    · have := hc i h1
      simpa [List.getD_eq_getElem?_getD, List.getElem?_append_left h1, h1] using this
    · have h2 : i = xs.length := by simp at hi; omega
      subst h2
      simpa [List.getD_eq_getElem?_getD] using hx
theorem RdF.under {W : World} {b off : Nat} {xs : List Nat} (h : RdF W b off xs) {i : Nat} (hi : i < xs.length) : ∃ y, (∀ W', Below W.heap.size W W' → W'.cell? ⟨b, off + i, none⟩ = some (.float .f32 y)) ∧ cb .f32 y = xs.getD i 0 := by
  obtain ⟨y, h1, h2⟩ := h i hi
  exact ⟨y, fun W' hb => by rw [hb.cell (World.block_lt_of_cell? _ _ h1)]; exact h1, h2⟩
theorem cb_fop (op : BinOp) (k : FloatKind) (x y : Nat) : cb k (fop op k x y) = fop op k x y := by
  unfold fop
  cases floatBits op k x y with
  | none => simp [cb_qnan]
  | some r => simp [cb_cb]
section push
variable {P : Program} {N B : Nat} {E : Env} {W : World} {ops : Array Oper} {K : Exit → Env → World → Prop} {D : World → Prop} {T : Tab} {i : Nat} {rest : List Nat} {d : Nat} {op : Op} {ty : TypeId} {pos : String} {aft : Array Edge} {g : Option (Nat × Bool)}
end push
section
variable {B : Nat} {W : World}
end
end Go.Proofs.Ytmplincflbhmiaa
namespace Go.Proofs.Ytmplincflbhmiaa
set_option linter.unusedSimpArgs false
set_option linter.unusedVariables false
open Go Cn Go.ChangeShapes Go.WideShapes Go.ChangeAt Go.RowKit

section
variable {H : Type} {enc : TypeId × Value → H} {P : Program} {W W' : World}
/-- words of 32 bits -/
def Bd (xs : List Nat) : Prop := ∀ x ∈ xs, x < 4294967296
theorem cb_lt {x : Nat} (h : x < 4294967296) : cb .f32 x < 4294967296 := by
  unfold cb
  split
  · decide
  · exact h
theorem open_f32 {base : Nat} {t : TypeId} {v : Value} (ht : P.underlying t = some (.float .f32)) (hk : Value.okWide P W .any base t v) : ∃ n, v = .float .f32 n := by
  simp only [Value.okWide, ht, Cell.okWide] at hk
  cases v <;> simp_all [Cell.ok]
/-- an argument that is a list of 32-bit floats, opened -/
theorem open_f32s' {base : Nat} {held : Bool} {fuel : Nat} {t e : TypeId} {v : Value} {x : DataW H × List MemPlace} (ht : P.underlying t = some (.slice e)) (he : P.underlying e = some (.float .f32)) (hc : P.cellsOf e = 1)
    (hk : Value.okWide P W .any base t v) (h : DataW.trod enc P W 0 (fun _ => true) held fuel t v.cells.toList = some x) :
    ∃ xs, SlF (cw W.heap.size W) v xs ∧ xs.length ≤ 9223372036854775807 ∧ Bd xs := by
  obtain ⟨a, len, cap, rfl⟩ := okWide_slice ht hk
  rcases Deep.open_slice1 (P := P) ht hc h with ⟨h1, -⟩ | ⟨a', len', cap', m, n, V, D, Pl, h1, -, hl, hmax, hm, -, hx⟩
  · simp [Value.cells] at h1
    obtain ⟨rfl, rfl, rfl⟩ := h1
    exact ⟨[], .inl ⟨rfl, rfl⟩, by simp, fun x hx => by simp at hx⟩
  · simp [Value.cells] at h1
    obtain ⟨rfl, rfl, rfl⟩ := h1
    have hs : a'.spot = none := by
      simp only [Value.okWide, ht, Cell.okWide, Cell.ok] at hk
      exact hk.2.2.2.1
    obtain ⟨b, off, sp⟩ := a'
    simp only at hs; subst hs
    simp only [if_true] at hm; subst hm
    have hf : ∀ i, i < m → ∃ y, W.cell? ⟨b, off + i, none⟩ = some (.float .f32 y) ∧ y < 4294967296 := by
      intro i hi
      obtain ⟨h2, h3⟩ := hx i hi
      rw [add_plain] at h2
      cases n with
      | zero => simp [DataW.trod] at h3
      | succ n =>
        rw [DataW.trod_step] at h3
        unfold DataW.trodStep at h3
        rw [he] at h3
        generalize V i = u at h2 h3
        cases u with
        | float k y =>
          simp only [Option.ite_none_right_eq_some] at h3
          obtain ⟨⟨e1, e2⟩, -⟩ := h3
          subst e1
          exact ⟨y, h2, by simpa [Lit.wf] using e2⟩
        | _ => simp at h3
    have hb : ∀ i, i < m → b < W.heap.size := by
      intro i hi
      obtain ⟨y, h2, -⟩ := hf i hi
      exact World.block_lt_of_cell? _ _ h2
    obtain ⟨f, hf'⟩ := Deep.choose_lt (α := Nat) hf
    refine ⟨(List.range len).map fun i => cb .f32 (f i), .inr ⟨b, off, m, by simp, ?_⟩, by simp; exact Nat.le_trans hl hmax, ?_⟩
    · intro i hi
      simp at hi
      refine ⟨f i, ?_, by simp [List.getD_eq_getElem?_getD, hi]⟩
      rw [cell_old (hb i (by omega))]
      exact (hf' i (by omega)).1
    · intro x hx
      obtain ⟨i, hi, rfl⟩ := List.mem_map.1 hx
      exact cb_lt (hf' i (by have := List.mem_range.1 hi; omega)).2
theorem open_f32s {base : Nat} {held : Bool} {fuel : Nat} {t e : TypeId} {v : Value} {x : DataW H × List MemPlace} (ht : P.underlying t = some (.slice e)) (he : P.underlying e = some (.float .f32)) (hc : P.cellsOf e = 1)
    (hk : Value.okWide P W .any base t v) (h : DataW.trod enc P W 0 (fun _ => true) held fuel t v.cells.toList = some x) :
    ∃ xs, SlF (cw W.heap.size W) v xs := by
  obtain ⟨xs, h1, -⟩ := open_f32s' ht he hc hk h
  exact ⟨xs, h1⟩
end
end Go.Proofs.Ytmplincflbhmiaa
namespace Go.Proofs.Ytmplincflbhmiaa
set_option linter.unusedSimpArgs false
set_option linter.unusedVariables false
open Go Cn Go.RowKit
/-- a record by what it says -/
def RecA (W : World) (v : Value) (s : ByteArray) (st sp : Int) (xs : List Nat) : Prop := ∃ a c, v = .agg #[.string s, .int .i64 st, .int .i64 sp, .slice a xs.length c] ∧ SlF W (.slice a xs.length c) xs
theorem RecA.below {W W' : World} {v : Value} {s : ByteArray} {st sp : Int} {xs : List Nat} (h : RecA W v s st sp xs) (hb : Below W.heap.size W W') : RecA W' v s st sp xs := by
  obtain ⟨a, c, h1, h2⟩ := h
  exact ⟨a, c, h1, h2.below hb⟩
section
variable {B : Nat} {W : World}
theorem SlF.same {W W' : World} {b : Nat} {v : Value} {xs : List Nat} (h : SlF W v xs) (s : Same b W W') (hne : ∀ a n c, v = .slice (some a) n c → a.block ≠ b) : SlF W' v xs := by
  rcases h with h | ⟨b', off, c, h1, h2⟩
  · exact .inl h
  · refine .inr ⟨b', off, c, h1, fun i hi => ?_⟩
    obtain ⟨y, h3, h4⟩ := h2 i hi
    have hq : b' ≠ b := hne _ _ _ h1
    exact ⟨y, by rw [s.cell (a := ⟨b', off + i, none⟩) hq]; exact h3, h4⟩
/-! ### names, good records -/
end
end Go.Proofs.Ytmplincflbhmiaa
namespace Go.Proofs.Ytmplincflbhmiaa
set_option linter.unusedSimpArgs false
set_option linter.unusedVariables false
open Go Cn Go.RowKit
/-! ### numbers -/
end Go.Proofs.Ytmplincflbhmiaa
namespace Go.Proofs.Ytmplincflbhmiaa
set_option linter.unusedSimpArgs false
set_option linter.unusedVariables false
open Go Cn Go.RowKit
section
variable {B : Nat} {W : World}
theorem Bd.at {xs : List Nat} (h : Bd xs) {i : Nat} (hi : i < xs.length) : xs.getD i 0 < 4294967296 := by
  have : xs[i] ∈ xs := List.getElem_mem hi
  have := h _ this
  simpa [List.getD_eq_getElem?_getD, hi] using this
end
end Go.Proofs.Ytmplincflbhmiaa
