/- The best lag: the program's own way, with a list of products; means. -/
import Derived.Test.YtaiebodmlnpbkaaFd
namespace Go.Proofs.Ytaiebodmlnpbkaa
set_option linter.unusedSimpArgs false
set_option linter.unusedVariables false
open Go Cn Go.RowKit
/-- a list of 32-bit numbers that the call owns -/
def OwnF (W : World) (base : Nat) (v : Value) (xs : List Nat) : Prop := W.ownsRow base 33 1 v xs.length (xs.map (.float .f32)) ∧ CanF xs
theorem OwnF.sl {W : World} {base : Nat} {v : Value} {xs : List Nat} (h : OwnF W base v xs) : SlF W v xs := by
  obtain ⟨⟨-, h1⟩, h2⟩ := h
  rcases h1 with ⟨rfl, h0⟩ | ⟨g, cap, cur, rfl, -, hh, -, -, -, hx⟩
  · exact .inl ⟨rfl, List.length_eq_zero_iff.1 h0⟩
  · refine .inr ⟨g, 0, cap, rfl, rdF_block hh h2 fun i hi => ?_⟩
    have : (cur.toList.take (xs.length * 1))[i]? = some (.float .f32 (xs.getD i 0)) := by
      rw [hx]; simp [List.getD_eq_getElem?_getD, hi]
    rw [List.getElem?_take, if_pos (by omega)] at this
    simpa using this
theorem OwnF.nil (W : World) (base : Nat) : OwnF W base (.slice none 0 0) [] := ⟨World.ownsRow_nil _ _ _ _, fun i hi => by simp at hi⟩
theorem OwnF.new {W : World} {base : Nat} (h : base ≤ W.heap.size) : OwnF (W.alloc (.cells #[] 33)) base (.slice (some ⟨W.heap.size, 0, none⟩) 0 0) [] :=
  ⟨⟨rfl, .inr ⟨W.heap.size, 0, #[], rfl, h, heap_alloc_new W _, by simp, by decide, rfl, rfl⟩⟩, fun i hi => by simp at hi⟩
theorem owns_alloc {W : World} {base : Nat} {e : TypeId} {size n : Nat} {v : Value} {xs : List Value} (o : Obj) (h : W.ownsRow base e size v n xs) : (W.alloc o).ownsRow base e size v n xs := by
  obtain ⟨h1, h2⟩ := h
  refine ⟨h1, ?_⟩
  rcases h2 with h2 | ⟨g, cap, cur, hv, hg, hh, r⟩
  · exact .inl h2
  · refine .inr ⟨g, cap, cur, hv, hg, ?_, r⟩
    rw [Below.heap_alloc W o g (by
      rcases Nat.lt_or_ge g W.heap.size with h | h
      · exact h
      · rw [Array.getElem?_eq_none h] at hh; cases hh)]
    exact hh
theorem owns_below {W W' : World} {base : Nat} {e : TypeId} {size n : Nat} {v : Value} {xs : List Value} (hb : Below W.heap.size W W') (h : W.ownsRow base e size v n xs) : W'.ownsRow base e size v n xs := by
  obtain ⟨h1, h2⟩ := h
  refine ⟨h1, ?_⟩
  rcases h2 with h2 | ⟨g, cap, cur, hv, hg, hh, r⟩
  · exact .inl h2
  · refine .inr ⟨g, cap, cur, hv, hg, ?_, r⟩
    rw [hb.block g (by
      rcases Nat.lt_or_ge g W.heap.size with h | h
      · exact h
      · rw [Array.getElem?_eq_none h] at hh; cases hh)]
    exact hh
theorem OwnF.push {W : World} {base : Nat} {v : Value} {xs : List Nat} {x : Nat} (hx : cb .f32 x = x) (hc : CanF xs) (h : W.ownsRow base 33 1 v (xs.length + 1) (xs.map (.float .f32) ++ ([Value.float .f32 x]).map cl)) : OwnF W base v (xs ++ [x]) := by
  refine ⟨?_, ?_⟩
  · simp only [List.map_cons, List.map_nil, cl, hx] at h
    simpa using h
  · intro i hi
    by_cases h1 : i < xs.length
    · have := hc i h1
      simpa [List.getD_eq_getElem?_getD, List.getElem?_append_left h1, h1] using this
    · have h2 : i = xs.length := by simp at hi; omega
      subst h2
      simpa [List.getD_eq_getElem?_getD] using hx
theorem own_lt {W : World} {base : Nat} {e : TypeId} {size n : Nat} {v : Value} {xs : List Value} (h : W.ownsRow base e size v n xs) : ∀ k, v.ownBlock = some k → base ≤ k := by
  rcases h.2 with ⟨rfl, -⟩ | ⟨g, cap, cur, rfl, hg, -⟩
  · intro k hk; cases hk
  · intro k hk; cases hk; exact hg
theorem RdF.under {W : World} {b off : Nat} {xs : List Nat} (h : RdF W b off xs) {i : Nat} (hi : i < xs.length) : ∃ y, (∀ W', Below W.heap.size W W' → W'.cell? ⟨b, off + i, none⟩ = some (.float .f32 y)) ∧ cb .f32 y = xs.getD i 0 := by
  obtain ⟨y, h1, h2⟩ := h i hi
  exact ⟨y, fun W' hb => by rw [hb.cell (World.block_lt_of_cell? _ _ h1)]; exact h1, h2⟩
theorem cells_new {W : World} {vs : List Value} {e : TypeId} : Cells (W.alloc (.cells vs.toArray e)) W.heap.size 0 vs := by
  intro j u hj
  simp only [World.cell?, heap_alloc_new]
  simpa using hj
theorem cb_fop (op : BinOp) (k : FloatKind) (x y : Nat) : cb k (fop op k x y) = fop op k x y := by
  unfold fop
  cases floatBits op k x y with
  | none => simp [cb_qnan]
  | some r => simp [cb_cb]
theorem range_push {f : Nat → Nat} (i : Nat) : (List.range i).map f ++ [f i] = (List.range (i + 1)).map f := by
  rw [List.range_succ, List.map_append]; rfl
theorem lagProd_at (xs ys : List Nat) (k i : Nat) : fop .mul .f32 (xs.getD (Int.toNat i) 0) (ys.getD (Int.toNat ((i : Int) + k)) 0) = lagProd xs ys k i := by
  unfold lagProd
  rw [show Int.toNat ((i : Int) + k) = i + k by omega, show Int.toNat (i : Int) = i by omega]
theorem lagMean_at {xs ys : List Nat} {k i : Nat} (h : i = xs.length - k) : meanOf (fun j => ((List.range i).map (lagProd xs ys k)).getD j 0) ((List.range i).map (lagProd xs ys k)).length = lagMean xs ys k := by
  subst h
  unfold lagMean meanOf
  simp only [List.length_map, List.length_range]
  rw [sumTo_congr (g := lagProd xs ys k)]
  intro j hj
  simp [List.getD_eq_getElem?_getD, hj]
section push
variable {P : Program} {N B : Nat} {E : Env} {W : World} {ops : Array Oper} {K : Exit → Env → World → Prop} {D : World → Prop} {T : Tab} {i : Nat} {rest : List Nat} {d : Nat} {op : Op} {ty : TypeId} {pos : String} {aft : Array Edge} {g : Option (Nat × Bool)}
theorem yields_pushF (hT : TabOk P T) {o : Oper} {base : Nat} {v : Value} {xs : List Nat} {x : Nat} {z : Value} (hv : evAp T E o = some (33, v, .slice (some ⟨W.heap.size, 0, none⟩) 1 1)) (ht : T.at 33 = some ⟨.float .f32, 1, 4, z⟩) (hz : z.cells.size = 1)
    (hu : OwnF W base v xs) (hB : B ≤ base) (hb : base ≤ W.heap.size) (hx : cb .f32 x = x) (hl : xs.length ≤ 1048577) :
    Go.Proofs.Ytaiebodmlnpbkaa.Cn.Yields P N B o E (W.alloc (.cells (cellsAll [.float .f32 x]) 33)) (fun v' W' => OwnF W' base v' (xs ++ [x]) ∧ Below base W W') := by
  intro a w ha hw hB'
  have hy := yields_append (P := P) (N := N) (B := B) (E := E) (W := W.alloc (.cells (cellsAll [.float .f32 x]) 33)) hT hv ht (owns_alloc _ hu.1) hB (by simp; omega) (cells_new (W := W) (vs := [.float .f32 x])) rfl rfl hz (Nat.one_pos) (by show xs.length + 1 ≤ 9223372036854775807; omega) (by show (xs.length + 1) * 4 ≤ 140737488355328; omega)
  obtain ⟨u, w', h1, h2, h3⟩ := hy a w ha hw hB'
  exact ⟨u, w', h1, h2, OwnF.push hx hu.2 h3.1, ((Below.refl base W).alloc hb _).grown h3.2.1 (by simp; omega) (own_lt hu.1)⟩
theorem d_pushF (hT : TabOk P T) {base : Nat} {v : Value} {xs : List Nat} {x : Nat} {z : Value} (ho : getL ops.toList i = some ⟨some d, op, ty, pos, aft, g⟩) (hg : guardE ops ⟨some d, op, ty, pos, aft, g⟩ E = some true) (hd : Nat.ble (d + 1) N = true)
    (hv : evAp T E ⟨some d, op, ty, pos, aft, g⟩ = some (33, v, .slice (some ⟨W.heap.size, 0, none⟩) 1 1)) (ht : T.at 33 = some ⟨.float .f32, 1, 4, z⟩) (hz : z.cells.size = 1) (hm : only ops i rest = true)
    (hu : OwnF W base v xs) (hB : B ≤ base) (hb : base ≤ W.heap.size) (hx : cb .f32 x = x) (hl : xs.length ≤ 1048577)
    (k : ∀ v' W', OwnF W' base v' (xs ++ [x]) → Below base W W' → D W' ∧ SD P N B ops D K rest ((d, v') :: E) W') : SD P N B ops D K (i :: rest) E (W.alloc (.cells (cellsAll [.float .f32 x]) 33)) :=
  d_yields ho hg hd hm (yields_pushF hT hv ht hz hu hB hb hx hl) (fun v' W' hR => k v' W' hR.1 hR.2)
theorem s_pushF (hT : TabOk P T) {base : Nat} {v : Value} {xs : List Nat} {x : Nat} {z : Value} (ho : getL ops.toList i = some ⟨some d, op, ty, pos, aft, g⟩) (hg : guardE ops ⟨some d, op, ty, pos, aft, g⟩ E = some true) (hd : Nat.ble (d + 1) N = true)
    (hv : evAp T E ⟨some d, op, ty, pos, aft, g⟩ = some (33, v, .slice (some ⟨W.heap.size, 0, none⟩) 1 1)) (ht : T.at 33 = some ⟨.float .f32, 1, 4, z⟩) (hz : z.cells.size = 1)
    (hu : OwnF W base v xs) (hB : B ≤ base) (hb : base ≤ W.heap.size) (hx : cb .f32 x = x) (hl : xs.length ≤ 1048577)
    (k : ∀ v' W', OwnF W' base v' (xs ++ [x]) → Below base W W' → AOps P N B ops rest K ((d, v') :: E) W') : AOps P N B ops (i :: rest) K E (W.alloc (.cells (cellsAll [.float .f32 x]) 33)) :=
  aops_yields (getL_ok ho) hg hd (yields_pushF hT hv ht hz hu hB hb hx hl) (fun v' W' hR => k v' W' hR.1 hR.2)
end push
section
variable {B : Nat} {W : World}
theorem c_impl_mean {v : Value} {xs : List Nat} (hv : SlF W v xs) (hl : xs.length ≤ 1048576) : ACalls Try.prog B 46 [v] W (fun r W' => r = .float .f32 (meanOf (fun i => xs.getD i 0) xs.length) ∧ W' = W) := by
  obtain ⟨a, c, rfl⟩ := hv.form
  refine acalls_of Try.func46 rfl Try.ntmps46 (Nat.le_of_ble_eq_true rfl) ?_
  repeat' (first
      | refine s_pure tabOk rfl rfl rfl rfl ?_
      | refine aops_nil ?_
      | refine thn_normal ?_
      | refine aw_seq ?_
      | refine aw_reg ?_
      | refine s_pass rfl rfl rfl ?_
      | refine s_len tabOk rfl rfl rfl rfl ?_
      | refine aw_true rfl ?_
      | refine aw_false rfl ?_
      | refine aw_block ?_
      | refine aw_skip ?_
      | refine aw_exit ?_
      | refine blk_exit ?_
      | refine blk_exit_other rfl ?_
      | refine blk_normal ?_
      | refine thn_exit ?_
      | refine thn_ret ?_
      | refine blk_ret ?_
      | refine rnd_ret ?_
      | refine rnd_exit ?_
      | refine aw_ret ?_
      | refine s_arith tabOk rfl rfl rfl rfl (by simp only [InR]; omega) ?_
      | ((fail_if_success refine s_told rfl rfl ?_); refine s_part rfl rfl rfl ?_ ?_ <;> intro hc <;> (first | replace hc := of_decide_eq_true hc | replace hc := of_decide_eq_false hc | replace hc := eq_of_beq hc | skip))
      | (refine aw_if rfl ?_ ?_ <;> intro hc <;> (first | replace hc := of_decide_eq_true hc | replace hc := of_decide_eq_false hc | replace hc := eq_of_beq hc | skip))
      | refine s_index1 tabOk rfl rfl rfl rfl (by omega) (by omega) ?_)
  refine aw_loop (fun s : Nat × Nat => [(8, .int .i64 s.1), (7, .int .i64 xs.length), (6, .slice a xs.length c), (3, .float .f32 s.2), (0, .slice a xs.length c)]) (fun _ => W)
      (fun s => s.1 ≤ xs.length ∧ s.2 = sumTo (fun i => xs.getD i 0) s.1) (fun s => xs.length - s.1) (0, 0) ⟨by omega, (sumTo_zero _).symm⟩ (by repeat (first | exact less_nil | refine less_cons rfl ?_)) rfl ?_
  rintro ⟨i, m⟩ ⟨hi, hm⟩
  dsimp only at hi hm ⊢
  subst hm
  repeat' (first
      | refine s_pure tabOk rfl rfl rfl rfl ?_
      | refine aops_nil ?_
      | refine thn_normal ?_
      | refine aw_seq ?_
      | refine aw_reg ?_
      | refine s_pass rfl rfl rfl ?_
      | refine s_len tabOk rfl rfl rfl rfl ?_
      | refine aw_true rfl ?_
      | refine aw_false rfl ?_
      | refine aw_block ?_
      | refine aw_skip ?_
      | refine aw_exit ?_
      | refine blk_exit ?_
      | refine blk_exit_other rfl ?_
      | refine blk_normal ?_
      | refine thn_exit ?_
      | refine thn_ret ?_
      | refine blk_ret ?_
      | refine rnd_ret ?_
      | refine rnd_exit ?_
      | refine aw_ret ?_
      | refine s_arith tabOk rfl rfl rfl rfl (by simp only [InR]; omega) ?_
      | ((fail_if_success refine s_told rfl rfl ?_); refine s_part rfl rfl rfl ?_ ?_ <;> intro hc <;> (first | replace hc := of_decide_eq_true hc | replace hc := of_decide_eq_false hc | replace hc := eq_of_beq hc | skip))
      | (refine aw_if rfl ?_ ?_ <;> intro hc <;> (first | replace hc := of_decide_eq_true hc | replace hc := of_decide_eq_false hc | replace hc := eq_of_beq hc | skip))
      | refine s_index1 tabOk rfl rfl rfl rfl (by omega) (by omega) ?_)
  all_goals try (exfalso; omega)
  · obtain ⟨b, off, rfl, hr⟩ := hv.read (by omega)
    repeat' (first
      | refine s_pure tabOk rfl rfl rfl rfl ?_
      | refine aops_nil ?_
      | refine thn_normal ?_
      | refine aw_seq ?_
      | refine aw_reg ?_
      | refine s_pass rfl rfl rfl ?_
      | refine s_len tabOk rfl rfl rfl rfl ?_
      | refine aw_true rfl ?_
      | refine aw_false rfl ?_
      | refine aw_block ?_
      | refine aw_skip ?_
      | refine aw_exit ?_
      | refine blk_exit ?_
      | refine blk_exit_other rfl ?_
      | refine blk_normal ?_
      | refine thn_exit ?_
      | refine thn_ret ?_
      | refine blk_ret ?_
      | refine rnd_ret ?_
      | refine rnd_exit ?_
      | refine aw_ret ?_
      | refine s_arith tabOk rfl rfl rfl rfl (by simp only [InR]; omega) ?_
      | ((fail_if_success refine s_told rfl rfl ?_); refine s_part rfl rfl rfl ?_ ?_ <;> intro hc <;> (first | replace hc := of_decide_eq_true hc | replace hc := of_decide_eq_false hc | replace hc := eq_of_beq hc | skip))
      | (refine aw_if rfl ?_ ?_ <;> intro hc <;> (first | replace hc := of_decide_eq_true hc | replace hc := of_decide_eq_false hc | replace hc := eq_of_beq hc | skip))
      | refine s_index1 tabOk rfl rfl rfl rfl (by omega) (by omega) ?_)
    refine s_loadf tabOk rfl rfl rfl rfl (hr _ (by omega)) ?_
    repeat' (first
      | refine s_pure tabOk rfl rfl rfl rfl ?_
      | refine aops_nil ?_
      | refine thn_normal ?_
      | refine aw_seq ?_
      | refine aw_reg ?_
      | refine s_pass rfl rfl rfl ?_
      | refine s_len tabOk rfl rfl rfl rfl ?_
      | refine aw_true rfl ?_
      | refine aw_false rfl ?_
      | refine aw_block ?_
      | refine aw_skip ?_
      | refine aw_exit ?_
      | refine blk_exit ?_
      | refine blk_exit_other rfl ?_
      | refine blk_normal ?_
      | refine thn_exit ?_
      | refine thn_ret ?_
      | refine blk_ret ?_
      | refine rnd_ret ?_
      | refine rnd_exit ?_
      | refine aw_ret ?_
      | refine s_arith tabOk rfl rfl rfl rfl (by simp only [InR]; omega) ?_
      | ((fail_if_success refine s_told rfl rfl ?_); refine s_part rfl rfl rfl ?_ ?_ <;> intro hc <;> (first | replace hc := of_decide_eq_true hc | replace hc := of_decide_eq_false hc | replace hc := eq_of_beq hc | skip))
      | (refine aw_if rfl ?_ ?_ <;> intro hc <;> (first | replace hc := of_decide_eq_true hc | replace hc := of_decide_eq_false hc | replace hc := eq_of_beq hc | skip))
      | refine s_index1 tabOk rfl rfl rfl rfl (by omega) (by omega) ?_)
    refine rnd_next (i + 1, _) ⟨by dsimp only; omega, (sumTo_succ _ _).symm⟩ (by dsimp only; omega) (by repeat (first | exact less_nil | refine less_cons rfl ?_)) rfl
  · have : i = xs.length := by omega
    subst this
    refine retK_ret tabOk (congrArg Array.toList Try.results46) (rv_tmp rfl rfl rv_nil) ⟨?_, rfl⟩
    unfold meanOf; rfl
end
end Go.Proofs.Ytaiebodmlnpbkaa
