/- Lists of floats copied and compared. -/
import Derived.Test.YtaiebodmlnpbkaaFa
namespace Go.Proofs.Ytaiebodmlnpbkaa
set_option linter.unusedSimpArgs false
set_option linter.unusedVariables false
open Go Cn Go.RowKit

/-! ### what is read stays -/
theorem RdF.mono {W W' : World} {b off : Nat} {xs : List Nat} (h : RdF W b off xs) (hc : ∀ a v, W.cell? a = some v → W'.cell? a = some v) : RdF W' b off xs := by
  intro i hi
  obtain ⟨y, h1, h2⟩ := h i hi
  exact ⟨y, hc _ _ h1, h2⟩
theorem SlF.mono {W W' : World} {v : Value} {xs : List Nat} (h : SlF W v xs) (hc : ∀ a u, W.cell? a = some u → W'.cell? a = some u) : SlF W' v xs := by
  rcases h with h | ⟨b, off, c, h1, h2⟩
  · exact .inl h
  · exact .inr ⟨b, off, c, h1, h2.mono hc⟩
theorem cell_alloc {W : World} {a : Addr} {v : Value} (o : Obj) (h : W.cell? a = some v) : (W.alloc o).cell? a = some v := by
  rw [World.cell?_alloc_lt _ _ _ (World.block_lt_of_cell? _ _ h)]; exact h
theorem SlF.alloc {W : World} {v : Value} {xs : List Nat} (h : SlF W v xs) (o : Obj) : SlF (W.alloc o) v xs := h.mono fun _ _ hc => cell_alloc o hc
theorem SlF.below {W W' : World} {v : Value} {xs : List Nat} (h : SlF W v xs) (hb : Below W.heap.size W W') : SlF W' v xs :=
  h.mono fun a u hc => by rw [hb.cell (World.block_lt_of_cell? _ _ hc)]; exact hc
/-- canonical words -/
def CanF (xs : List Nat) : Prop := ∀ i, i < xs.length → cb .f32 (xs.getD i 0) = xs.getD i 0
theorem SlF.canon {W : World} {v : Value} {xs : List Nat} (h : SlF W v xs) : CanF xs := by
  rcases h with ⟨-, rfl⟩ | ⟨b, off, c, -, h2⟩
  · intro i hi; simp at hi
  · intro i hi; exact h2.canon hi
def fcells (xs : List Nat) : Array Value := (xs.map (Value.float .f32)).toArray
theorem fcells_size (xs : List Nat) : (fcells xs).size = xs.length := by simp [fcells]
theorem rdF_block {W : World} {b : Nat} {e : TypeId} {f : Nat × Nat} {xs : List Nat} {cur : Array Value} (h : W.heap[b]? = some (.cells cur e f)) (hc : CanF xs) (hx : ∀ i, i < xs.length → cur[i]? = some (.float .f32 (xs.getD i 0))) : RdF W b 0 xs := by
  intro i hi
  refine ⟨xs.getD i 0, ?_, hc i hi⟩
  simp [World.cell?, h, hx i hi]
theorem fcells_get {xs : List Nat} {i : Nat} (hi : i < xs.length) : (fcells xs)[i]? = some (.float .f32 (xs.getD i 0)) := by
  simp [fcells, List.getD_eq_getElem?_getD, hi]
theorem slF_new {W : World} {xs : List Nat} {e : TypeId} (hc : CanF xs) (c : Nat) : SlF (W.alloc (.cells (fcells xs) e)) (.slice (some ⟨W.heap.size, 0, none⟩) xs.length c) xs := by
  refine .inr ⟨_, _, _, rfl, rdF_block (heap_alloc_new W _) hc fun i hi => fcells_get hi⟩

/-! ### copies -/
def cpy (xs : List Nat) (i : Nat) : Array Value := ((xs.take i).map (Value.float .f32) ++ List.replicate (xs.length - i) (Value.float .f32 0)).toArray
theorem cpy_zero (xs : List Nat) : madeCells (zerosOf (.float .f32 0)) xs.length = cpy xs 0 := by
  unfold madeCells cpy zerosOf
  simp only [Value.cells, List.take_zero, List.map_nil, List.nil_append, Nat.sub_zero]
  have hz : (#[Value.float .f32 0].map cl) = #[Value.float .f32 0] := by simp [cl, cb_zero]
  rw [hz]
  apply Array.ext
  · simp
  · intro i h1 h2
    simp [Nat.mod_one]
theorem cpy_full (xs : List Nat) : cpy xs xs.length = fcells xs := by simp [cpy, fcells]
theorem cpy_size (xs : List Nat) (i : Nat) (h : i ≤ xs.length) : (cpy xs i).size = xs.length := by simp [cpy]; omega
theorem splice_one {cur : Array Value} {i : Nat} (h : i < cur.size) (v : Value) (j : Nat) : (splice cur i [v])[j]? = if j = i then some v else cur[j]? := by
  unfold splice
  simp only [List.getElem?_toArray, List.append_assoc, List.length_singleton]
  have hl : (cur.toList.take i).length = i := by simp; omega
  by_cases h1 : j < i
  · rw [List.getElem?_append_left (by omega), if_neg (by omega), List.getElem?_take, if_pos h1]; simp
  · rw [List.getElem?_append_right (by omega), hl]
    by_cases h2 : j = i
    · subst h2; simp
    · rw [if_neg h2]
      rw [show j - i = (j - i - 1) + 1 by omega]
      simp only [List.singleton_append, List.getElem?_cons_succ, List.getElem?_drop]
      rw [show i + 1 + (j - i - 1) = j by omega]
      simp
theorem cpy_get (xs : List Nat) (i j : Nat) (hi : i ≤ xs.length) : (cpy xs i)[j]? = if j < i then some (.float .f32 (xs.getD j 0)) else if j < xs.length then some (.float .f32 0) else none := by
  unfold cpy
  simp only [List.getElem?_toArray]
  have hl : ((xs.take i).map (Value.float .f32)).length = i := by simp; omega
  by_cases h1 : j < i
  · rw [List.getElem?_append_left (by omega), if_pos h1]
    have : j < xs.length := by omega
    simp [h1, List.getD_eq_getElem?_getD, this]
  · rw [List.getElem?_append_right (by omega), hl, if_neg h1]
    by_cases h2 : j < xs.length
    · rw [if_pos h2]; rw [List.getElem?_replicate]; rw [if_pos (by omega)]
    · rw [if_neg h2, List.getElem?_replicate, if_neg (by omega)]
theorem cpy_succ (xs : List Nat) (i : Nat) (h : i < xs.length) : splice (cpy xs i) i [Value.float .f32 (xs.getD i 0)] = cpy xs (i + 1) := by
  apply Array.ext_getElem?
  intro j
  rw [splice_one (by rw [cpy_size xs i (by omega)]; exact h), cpy_get xs (i + 1) j (by omega), cpy_get xs i j (by omega)]
  by_cases h1 : j = i
  · subst h1; rw [if_pos rfl, if_pos (by omega)]
  · rw [if_neg h1]
    by_cases h2 : j < i
    · rw [if_pos h2, if_pos (show j < i + 1 by omega)]
    · rw [if_neg h2, if_neg (show ¬ j < i + 1 by omega)]
theorem setRow_alloc (W : World) (c c' : Array Value) (e : TypeId) : (W.alloc (.cells c e)).setRow W.heap.size c' = W.alloc (.cells c' e) := by
  refine world_ext ?_ rfl rfl rfl rfl
  apply Array.ext_getElem?
  intro k
  by_cases hk : k = W.heap.size
  · subst hk
    rw [setRow_heap _ _ c c' e (0, 0) (heap_alloc_new W _)]
    exact (heap_alloc_new W _).symm
  · rw [setRow_other _ _ _ _ hk]
    by_cases hl : k < W.heap.size
    · rw [Below.heap_alloc W _ k hl, Below.heap_alloc W _ k hl]
    · rw [Array.getElem?_eq_none (by simp; omega), Array.getElem?_eq_none (by simp; omega)]

section
variable {B : Nat} {W : World}
theorem c_laws_toFloat32S {v : Value} {xs : List Nat} (hv : SlF W v xs) (hl : xs.length ≤ 1048576) (hB : B ≤ W.heap.size) :
    ACalls Try.prog B 11 [v] W (fun r W' => r = .slice (some ⟨W.heap.size, 0, none⟩) xs.length xs.length ∧ W' = W.alloc (.cells (fcells xs) 33)) := by
  have hcan := hv.canon
  rcases hv with ⟨rfl, rfl⟩ | ⟨b, off, c, rfl, hr⟩
  · refine acalls_of Try.func11 rfl Try.ntmps11 (Nat.le_of_ble_eq_true rfl) ?_
    repeat' (first
      | refine s_pure tabOk rfl rfl rfl rfl ?_
      | refine aops_nil ?_
      | refine thn_normal ?_
      | refine aw_seq ?_
      | refine aw_reg ?_
      | refine s_pass rfl rfl rfl ?_
      | refine s_len tabOk rfl rfl rfl rfl ?_
      | refine aw_true rfl ?_
      | refine aw_false rfl ?_
      | refine aw_block ?_
      | refine aw_skip ?_
      | refine aw_exit ?_
      | refine blk_exit ?_
      | refine blk_exit_other rfl ?_
      | refine blk_normal ?_
      | refine thn_exit ?_
      | refine thn_ret ?_
      | refine blk_ret ?_
      | refine rnd_ret ?_
      | refine rnd_exit ?_
      | refine aw_ret ?_
      | refine s_arith tabOk rfl rfl rfl rfl (by simp only [InR]; omega) ?_
      | ((fail_if_success refine s_told rfl rfl ?_); refine s_part rfl rfl rfl ?_ ?_ <;> intro hc <;> (first | replace hc := of_decide_eq_true hc | replace hc := of_decide_eq_false hc | replace hc := eq_of_beq hc | skip))
      | (refine aw_if rfl ?_ ?_ <;> intro hc <;> (first | replace hc := of_decide_eq_true hc | replace hc := of_decide_eq_false hc | replace hc := eq_of_beq hc | skip))
      | refine s_index1 tabOk rfl rfl rfl rfl (by omega) (by omega) ?_)
    refine s_make tabOk rfl rfl rfl rfl rfl (by decide) (by decide) (by decide) (by decide) (by decide) ?_
    repeat' (first
      | refine s_pure tabOk rfl rfl rfl rfl ?_
      | refine aops_nil ?_
      | refine thn_normal ?_
      | refine aw_seq ?_
      | refine aw_reg ?_
      | refine s_pass rfl rfl rfl ?_
      | refine s_len tabOk rfl rfl rfl rfl ?_
      | refine aw_true rfl ?_
      | refine aw_false rfl ?_
      | refine aw_block ?_
      | refine aw_skip ?_
      | refine aw_exit ?_
      | refine blk_exit ?_
      | refine blk_exit_other rfl ?_
      | refine blk_normal ?_
      | refine thn_exit ?_
      | refine thn_ret ?_
      | refine blk_ret ?_
      | refine rnd_ret ?_
      | refine rnd_exit ?_
      | refine aw_ret ?_
      | refine s_arith tabOk rfl rfl rfl rfl (by simp only [InR]; omega) ?_
      | ((fail_if_success refine s_told rfl rfl ?_); refine s_part rfl rfl rfl ?_ ?_ <;> intro hc <;> (first | replace hc := of_decide_eq_true hc | replace hc := of_decide_eq_false hc | replace hc := eq_of_beq hc | skip))
      | (refine aw_if rfl ?_ ?_ <;> intro hc <;> (first | replace hc := of_decide_eq_true hc | replace hc := of_decide_eq_false hc | replace hc := eq_of_beq hc | skip))
      | refine s_index1 tabOk rfl rfl rfl rfl (by omega) (by omega) ?_)
    refine aw_loop (fun i : Nat => [(4, .int .i64 i), (3, .slice (some ⟨W.heap.size, 0, none⟩) 0 0), (0, .slice none 0 0)]) (fun _ => W.alloc (.cells (fcells []) 33)) (fun i => i = 0) (fun _ => 0) 0 rfl (by repeat (first | exact less_nil | refine less_cons rfl ?_)) (by simp [madeCells, fcells, Array.range_zero']) ?_
    rintro i rfl
    repeat' (first
      | refine s_pure tabOk rfl rfl rfl rfl ?_
      | refine aops_nil ?_
      | refine thn_normal ?_
      | refine aw_seq ?_
      | refine aw_reg ?_
      | refine s_pass rfl rfl rfl ?_
      | refine s_len tabOk rfl rfl rfl rfl ?_
      | refine aw_true rfl ?_
      | refine aw_false rfl ?_
      | refine aw_block ?_
      | refine aw_skip ?_
      | refine aw_exit ?_
      | refine blk_exit ?_
      | refine blk_exit_other rfl ?_
      | refine blk_normal ?_
      | refine thn_exit ?_
      | refine thn_ret ?_
      | refine blk_ret ?_
      | refine rnd_ret ?_
      | refine rnd_exit ?_
      | refine aw_ret ?_
      | refine s_arith tabOk rfl rfl rfl rfl (by simp only [InR]; omega) ?_
      | ((fail_if_success refine s_told rfl rfl ?_); refine s_part rfl rfl rfl ?_ ?_ <;> intro hc <;> (first | replace hc := of_decide_eq_true hc | replace hc := of_decide_eq_false hc | replace hc := eq_of_beq hc | skip))
      | (refine aw_if rfl ?_ ?_ <;> intro hc <;> (first | replace hc := of_decide_eq_true hc | replace hc := of_decide_eq_false hc | replace hc := eq_of_beq hc | skip))
      | refine s_index1 tabOk rfl rfl rfl rfl (by omega) (by omega) ?_)
    all_goals try (exfalso; omega)
    exact retK_ret tabOk (congrArg Array.toList Try.results11) (rv_tmp rfl rfl rv_nil) ⟨rfl, rfl⟩
  · refine acalls_of Try.func11 rfl Try.ntmps11 (Nat.le_of_ble_eq_true rfl) ?_
    repeat' (first
      | refine s_pure tabOk rfl rfl rfl rfl ?_
      | refine aops_nil ?_
      | refine thn_normal ?_
      | refine aw_seq ?_
      | refine aw_reg ?_
      | refine s_pass rfl rfl rfl ?_
      | refine s_len tabOk rfl rfl rfl rfl ?_
      | refine aw_true rfl ?_
      | refine aw_false rfl ?_
      | refine aw_block ?_
      | refine aw_skip ?_
      | refine aw_exit ?_
      | refine blk_exit ?_
      | refine blk_exit_other rfl ?_
      | refine blk_normal ?_
      | refine thn_exit ?_
      | refine thn_ret ?_
      | refine blk_ret ?_
      | refine rnd_ret ?_
      | refine rnd_exit ?_
      | refine aw_ret ?_
      | refine s_arith tabOk rfl rfl rfl rfl (by simp only [InR]; omega) ?_
      | ((fail_if_success refine s_told rfl rfl ?_); refine s_part rfl rfl rfl ?_ ?_ <;> intro hc <;> (first | replace hc := of_decide_eq_true hc | replace hc := of_decide_eq_false hc | replace hc := eq_of_beq hc | skip))
      | (refine aw_if rfl ?_ ?_ <;> intro hc <;> (first | replace hc := of_decide_eq_true hc | replace hc := of_decide_eq_false hc | replace hc := eq_of_beq hc | skip))
      | refine s_index1 tabOk rfl rfl rfl rfl (by omega) (by omega) ?_)
    refine s_make tabOk rfl rfl rfl rfl rfl (by decide) (by omega) (by omega) (by simp; omega) (by omega) ?_
    repeat' (first
      | refine s_pure tabOk rfl rfl rfl rfl ?_
      | refine aops_nil ?_
      | refine thn_normal ?_
      | refine aw_seq ?_
      | refine aw_reg ?_
      | refine s_pass rfl rfl rfl ?_
      | refine s_len tabOk rfl rfl rfl rfl ?_
      | refine aw_true rfl ?_
      | refine aw_false rfl ?_
      | refine aw_block ?_
      | refine aw_skip ?_
      | refine aw_exit ?_
      | refine blk_exit ?_
      | refine blk_exit_other rfl ?_
      | refine blk_normal ?_
      | refine thn_exit ?_
      | refine thn_ret ?_
      | refine blk_ret ?_
      | refine rnd_ret ?_
      | refine rnd_exit ?_
      | refine aw_ret ?_
      | refine s_arith tabOk rfl rfl rfl rfl (by simp only [InR]; omega) ?_
      | ((fail_if_success refine s_told rfl rfl ?_); refine s_part rfl rfl rfl ?_ ?_ <;> intro hc <;> (first | replace hc := of_decide_eq_true hc | replace hc := of_decide_eq_false hc | replace hc := eq_of_beq hc | skip))
      | (refine aw_if rfl ?_ ?_ <;> intro hc <;> (first | replace hc := of_decide_eq_true hc | replace hc := of_decide_eq_false hc | replace hc := eq_of_beq hc | skip))
      | refine s_index1 tabOk rfl rfl rfl rfl (by omega) (by omega) ?_)
    refine aw_loop (fun i : Nat => [(4, .int .i64 i), (3, .slice (some ⟨W.heap.size, 0, none⟩) xs.length xs.length), (0, .slice (some ⟨b, off, none⟩) xs.length c)]) (fun i => W.alloc (.cells (cpy xs i) 33))
      (fun i => i ≤ xs.length) (fun i => xs.length - i) 0 (by omega) (by repeat (first | exact less_nil | refine less_cons rfl ?_)) (by rw [← cpy_zero]; simp) ?_
    intro i hi
    repeat' (first
      | refine s_pure tabOk rfl rfl rfl rfl ?_
      | refine aops_nil ?_
      | refine thn_normal ?_
      | refine aw_seq ?_
      | refine aw_reg ?_
      | refine s_pass rfl rfl rfl ?_
      | refine s_len tabOk rfl rfl rfl rfl ?_
      | refine aw_true rfl ?_
      | refine aw_false rfl ?_
      | refine aw_block ?_
      | refine aw_skip ?_
      | refine aw_exit ?_
      | refine blk_exit ?_
      | refine blk_exit_other rfl ?_
      | refine blk_normal ?_
      | refine thn_exit ?_
      | refine thn_ret ?_
      | refine blk_ret ?_
      | refine rnd_ret ?_
      | refine rnd_exit ?_
      | refine aw_ret ?_
      | refine s_arith tabOk rfl rfl rfl rfl (by simp only [InR]; omega) ?_
      | ((fail_if_success refine s_told rfl rfl ?_); refine s_part rfl rfl rfl ?_ ?_ <;> intro hc <;> (first | replace hc := of_decide_eq_true hc | replace hc := of_decide_eq_false hc | replace hc := eq_of_beq hc | skip))
      | (refine aw_if rfl ?_ ?_ <;> intro hc <;> (first | replace hc := of_decide_eq_true hc | replace hc := of_decide_eq_false hc | replace hc := eq_of_beq hc | skip))
      | refine s_index1 tabOk rfl rfl rfl rfl (by omega) (by omega) ?_)
    all_goals try (exfalso; omega)
    · refine s_loadf tabOk rfl rfl rfl rfl ((hr.mono fun _ _ => cell_alloc _) _ (by omega)) ?_
      repeat' (first
      | refine s_pure tabOk rfl rfl rfl rfl ?_
      | refine aops_nil ?_
      | refine thn_normal ?_
      | refine aw_seq ?_
      | refine aw_reg ?_
      | refine s_pass rfl rfl rfl ?_
      | refine s_len tabOk rfl rfl rfl rfl ?_
      | refine aw_true rfl ?_
      | refine aw_false rfl ?_
      | refine aw_block ?_
      | refine aw_skip ?_
      | refine aw_exit ?_
      | refine blk_exit ?_
      | refine blk_exit_other rfl ?_
      | refine blk_normal ?_
      | refine thn_exit ?_
      | refine thn_ret ?_
      | refine blk_ret ?_
      | refine rnd_ret ?_
      | refine rnd_exit ?_
      | refine aw_ret ?_
      | refine s_arith tabOk rfl rfl rfl rfl (by simp only [InR]; omega) ?_
      | ((fail_if_success refine s_told rfl rfl ?_); refine s_part rfl rfl rfl ?_ ?_ <;> intro hc <;> (first | replace hc := of_decide_eq_true hc | replace hc := of_decide_eq_false hc | replace hc := eq_of_beq hc | skip))
      | (refine aw_if rfl ?_ ?_ <;> intro hc <;> (first | replace hc := of_decide_eq_true hc | replace hc := of_decide_eq_false hc | replace hc := eq_of_beq hc | skip))
      | refine s_index1 tabOk rfl rfl rfl rfl (by omega) (by omega) ?_)
      refine s_store tabOk rfl rfl rfl rfl rfl rfl hB (heap_alloc_new W _) (by rw [cpy_size xs i hi]; omega) ?_
      rw [setRow_alloc]
      simp only [Int.toNat_natCast, Nat.zero_add, Value.cells]
      repeat' (first
      | refine s_pure tabOk rfl rfl rfl rfl ?_
      | refine aops_nil ?_
      | refine thn_normal ?_
      | refine aw_seq ?_
      | refine aw_reg ?_
      | refine s_pass rfl rfl rfl ?_
      | refine s_len tabOk rfl rfl rfl rfl ?_
      | refine aw_true rfl ?_
      | refine aw_false rfl ?_
      | refine aw_block ?_
      | refine aw_skip ?_
      | refine aw_exit ?_
      | refine blk_exit ?_
      | refine blk_exit_other rfl ?_
      | refine blk_normal ?_
      | refine thn_exit ?_
      | refine thn_ret ?_
      | refine blk_ret ?_
      | refine rnd_ret ?_
      | refine rnd_exit ?_
      | refine aw_ret ?_
      | refine s_arith tabOk rfl rfl rfl rfl (by simp only [InR]; omega) ?_
      | ((fail_if_success refine s_told rfl rfl ?_); refine s_part rfl rfl rfl ?_ ?_ <;> intro hc <;> (first | replace hc := of_decide_eq_true hc | replace hc := of_decide_eq_false hc | replace hc := eq_of_beq hc | skip))
      | (refine aw_if rfl ?_ ?_ <;> intro hc <;> (first | replace hc := of_decide_eq_true hc | replace hc := of_decide_eq_false hc | replace hc := eq_of_beq hc | skip))
      | refine s_index1 tabOk rfl rfl rfl rfl (by omega) (by omega) ?_)
      refine rnd_next (i + 1) (by omega) (by omega) (by repeat (first | exact less_nil | refine less_cons rfl ?_)) ?_
      rw [← cpy_succ xs i (by omega)]
    · exact retK_ret tabOk (congrArg Array.toList Try.results11) (rv_tmp rfl rfl rv_nil) ⟨rfl, by rw [show i = xs.length by omega, cpy_full]⟩
end
end Go.Proofs.Ytaiebodmlnpbkaa
