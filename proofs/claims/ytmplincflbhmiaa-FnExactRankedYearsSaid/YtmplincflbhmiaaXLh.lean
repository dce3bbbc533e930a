/- Single steps more: floats loaded, zeros made, quotients. -/
import Derived.Test.YtmplincflbhmiaaXFb
import Derived.Test.YtmplincflbhmiaaCn13
import Derived.Test.YtmplincflbhmiaaHc
namespace Go.Proofs.Ytmplincflbhmiaa
set_option linter.unusedSimpArgs false
set_option linter.unusedVariables false
open Go Cn Go.RowKit
theorem dec32 (x : Nat) : FloatKind.f32.decode x = (if x % 2147483648 < 8388608 then .number (x / 2147483648 % 2 == 1) (x % 2147483648) (-149) else if x % 2147483648 < 2139095040 then .number (x / 2147483648 % 2 == 1) (8388608 + x % 2147483648 % 8388608) (-149 + ((x % 2147483648 / 8388608 - 1 : Nat) : Int)) else if x % 2147483648 = 2139095040 then .infinity (x / 2147483648 % 2 == 1) else .nan (x / 2147483648 % 2 == 1) (x % 2147483648 - 2139095040)) := rfl
/-! ### the sign, seen in the wider number -/
end Go.Proofs.Ytmplincflbhmiaa
namespace Go.Proofs.Ytmplincflbhmiaa
set_option linter.unusedSimpArgs false
set_option linter.unusedVariables false
open Go Cn Go.RowKit
theorem fint_nonan (n : Int) : fcmp .neq .f32 (fint .f32 n) (fint .f32 n) = false := by
  rw [neq_self]
  have h : (FloatKind.f32.decode (FloatKind.f32.nearest n)).isNaN = false := nearest_not_nan .f32 _ _ _
  unfold fint cb
  rw [if_neg (by simp [h])]
  exact h
theorem cb_fint (n : Int) : cb .f32 (fint .f32 n) = fint .f32 n := by unfold fint; rw [cb_cb]
def markTo (n : Int) (xs : List Nat) : Nat → List Nat
  | 0 => xs
  | i + 1 => (markTo n xs i).set i (fint .f32 (n + i))
theorem markTo_zero (n : Int) (xs : List Nat) : markTo n xs 0 = xs := rfl
theorem markTo_succ (n : Int) (xs : List Nat) (i : Nat) : markTo n xs (i + 1) = (markTo n xs i).set i (fint .f32 (n + i)) := rfl
theorem markTo_len (n : Int) (xs : List Nat) : ∀ i, (markTo n xs i).length = xs.length
  | 0 => rfl
  | i + 1 => by rw [markTo_succ, List.length_set, markTo_len n xs i]
theorem markTo_at (n : Int) (xs : List Nat) : ∀ (i j : Nat), i ≤ xs.length → j < i → (markTo n xs i).getD j 0 = fint .f32 (n + j)
  | i + 1, j, hi, hj => by
    rw [markTo_succ]
    by_cases h : j = i
    · subst h
      simp [List.getD_eq_getElem?_getD, markTo_len, show j < xs.length by omega]
    · have := markTo_at n xs i j (by omega) (by omega)
      simpa [List.getD_eq_getElem?_getD, List.getElem?_set, show ¬ i = j by omega] using this
attribute [irreducible] markTo
theorem OwnF.row {W : World} {base : Nat} {v : Value} {xs : List Nat} (h : OwnF W base v xs) (hp : 0 < xs.length) : ∃ g cap cur, v = .slice (some ⟨g, 0, none⟩) xs.length cap ∧ base ≤ g ∧ W.heap[g]? = some (.cells cur 32 (0, 0)) ∧ xs.length ≤ cur.size := by
  rcases h.1.2 with ⟨-, h0⟩ | ⟨g, cap, cur, h1, h2, h3, h4, h5, h6, h7⟩
  · omega
  · exact ⟨g, cap, cur, h1, h2, h3, by omega⟩
theorem OwnF.set {W : World} {base g cap : Nat} {cur : Array Value} {xs : List Nat} {i y : Nat} (h : OwnF W base (.slice (some ⟨g, 0, none⟩) xs.length cap) xs) (hg : W.heap[g]? = some (.cells cur 32 (0, 0))) (hi : i < xs.length) (hy : cb .f32 y = y) :
    OwnF (W.setRow g (splice cur i [.float .f32 y])) base (.slice (some ⟨g, 0, none⟩) xs.length cap) (xs.set i y) := by
  obtain ⟨⟨h1, h2⟩, h3⟩ := h
  rcases h2 with ⟨e, -⟩ | ⟨g', cap', cur', e, a1, a2, a3, a4, a5, a6⟩
  · cases e
  · cases e
    rw [hg] at a2
    cases a2
    refine ⟨⟨by simp, .inr ⟨g, cap, splice cur i [.float .f32 y], by simp, a1, setRow_heap _ _ _ _ _ _ hg, by simpa using a3, a4, ?_, ?_⟩⟩, ?_⟩
    · have hs : (splice cur i [.float .f32 y]).size = cur.size := by
        unfold splice
        simp only [List.size_toArray, List.length_append, List.length_take, List.length_drop, Array.length_toList, List.length_singleton]
        omega
      rw [hs]; exact a5
    · apply List.ext_getElem?
      intro j
      by_cases hj : j < xs.length
      · rw [List.getElem?_take, if_pos (by simpa using hj), Array.getElem?_toList, splice_one (by omega)]
        have hcur : cur[j]? = some (.float .f32 (xs.getD j 0)) := by
          have : (cur.toList.take (xs.length * 1))[j]? = some (.float .f32 (xs.getD j 0)) := by
            rw [a6]; simp [List.getD_eq_getElem?_getD, hj]
          rw [List.getElem?_take, if_pos (by omega)] at this
          simpa using this
        by_cases e : j = i
        · subst e; rw [if_pos rfl]; simp [hi]
        · rw [if_neg e, hcur]; simp [show ¬ i = j from fun h => e h.symm, hj, List.getD_eq_getElem?_getD]
      · rw [List.getElem?_take, if_neg (by simpa using hj), List.getElem?_eq_none (by simpa using hj)]
    · intro j hj
      have hj' : j < xs.length := by simpa using hj
      by_cases e : i = j
      · subst e; simpa [List.getD_eq_getElem?_getD, List.getElem?_set, hj'] using hy
      · have := h3 j hj'
        simpa [List.getD_eq_getElem?_getD, List.getElem?_set, e, hj'] using this
theorem OwnF.lt {W : World} {base : Nat} {v : Value} {xs : List Nat} (h : OwnF W base v xs) : ∀ k, v.ownBlock = some k → base ≤ k ∧ k < W.heap.size := by
  rcases h.1.2 with ⟨rfl, -⟩ | ⟨g, cap, cur, rfl, hg, hh, -⟩
  · intro k hk; cases hk
  · intro k hk; cases hk
    refine ⟨hg, ?_⟩
    rcases Nat.lt_or_ge g W.heap.size with h | h
    · exact h
    · rw [Array.getElem?_eq_none h] at hh; cases hh
theorem OwnF.keep {W W' : World} {base : Nat} {v : Value} {xs : List Nat} (h : OwnF W base v xs) (hk : ∀ k, v.ownBlock = some k → W'.heap[k]? = W.heap[k]?) : OwnF W' base v xs := by
  obtain ⟨⟨h1, h2⟩, h3⟩ := h
  refine ⟨⟨h1, ?_⟩, h3⟩
  rcases h2 with h2 | ⟨g, cap, cur, hv, hg, hh, r⟩
  · exact .inl h2
  · refine .inr ⟨g, cap, cur, hv, hg, ?_, r⟩
    rw [hk g (by rw [hv]; rfl)]; exact hh
theorem OwnF.len {W : World} {base n c : Nat} {a : Option Addr} {xs : List Nat} (h : OwnF W base (.slice a n c) xs) : n = xs.length := by
  rcases h.1.2 with ⟨e, h0⟩ | ⟨g, cap, cur, e, -⟩
  · cases e; exact h0.symm
  · cases e; rfl
theorem OwnF.below {W W' : World} {base : Nat} {v : Value} {xs : List Nat} (h : OwnF W base v xs) (hb : Below W.heap.size W W') : OwnF W' base v xs := ⟨owns_below hb h.1, h.2⟩
section
variable {B : Nat} {W : World}
theorem co_toFloat32S {v : Value} {xs : List Nat} (hv : SlF W v xs) (hl : xs.length ≤ 1048576) (hB : B ≤ W.heap.size) :
    ACalls Try.prog B 8 [v] W (fun r W' => (∃ b, r = .slice (some ⟨b, 0, none⟩) xs.length xs.length) ∧ OwnF W' W.heap.size r xs ∧ Below W.heap.size W W') := by
  refine (c_laws_toFloat32S hv hl hB).mono fun r W' h => ?_
  obtain ⟨rfl, rfl⟩ := h
  refine ⟨⟨_, rfl⟩, ⟨⟨by simp, .inr ⟨W.heap.size, xs.length, fcells xs, rfl, Nat.le_refl _, heap_alloc_new W _, Nat.le_refl _, Nat.le_trans hl (by decide), by simp [fcells], by rw [show (fcells xs).toList = xs.map (Value.float .f32) by simp [fcells]]; exact List.take_of_length_le (by simp)⟩⟩, hv.canon⟩, (Below.refl _ _).alloc (Nat.le_refl _) _⟩
theorem c_laws_markFloat32S {base : Nat} {v : Value} {xs : List Nat} (hu : OwnF W base v xs) (hB : B ≤ base) (hl : xs.length ≤ 1048576) {n : Int} (h0 : 0 ≤ n) (h1 : n ≤ 1099511627776) :
    ACalls Try.prog B 12 [v, .int .i64 n] W (fun r W' => r = .int .i64 (n + xs.length) ∧ OwnF W' base v (markTo n xs xs.length) ∧ Below base W W' ∧ (∀ k, v.ownBlock ≠ some k → W'.heap[k]? = W.heap[k]?) ∧ W'.heap.size = W.heap.size) := by
  obtain ⟨a, c, rfl⟩ := hu.sl.form
  refine acalls_of Try.func12 rfl Try.ntmps12 (Nat.le_of_ble_eq_true rfl) ?_
  repeat' (first
      | refine s_pure tabOk rfl rfl rfl rfl ?_
      | refine aops_nil ?_
      | refine thn_normal ?_
      | refine aw_seq ?_
      | refine aw_reg ?_
      | refine s_pass rfl rfl rfl ?_
      | refine s_len tabOk rfl rfl rfl rfl ?_
      | refine aw_true rfl ?_
      | refine aw_false rfl ?_
      | refine aw_block ?_
      | refine aw_skip ?_
      | refine aw_exit ?_
      | refine blk_exit ?_
      | refine blk_exit_other rfl ?_
      | refine blk_normal ?_
      | refine thn_exit ?_
      | refine thn_ret ?_
      | refine blk_ret ?_
      | refine rnd_ret ?_
      | refine rnd_exit ?_
      | refine aw_ret ?_
      | refine s_arith tabOk rfl rfl rfl rfl (by simp only [InR]; omega) ?_
      | ((fail_if_success refine s_told rfl rfl ?_); refine s_part rfl rfl rfl ?_ ?_ <;> intro hc <;> (first | replace hc := of_decide_eq_true hc | replace hc := of_decide_eq_false hc | replace hc := eq_of_beq hc | skip))
      | (refine aw_if rfl ?_ ?_ <;> intro hc <;> (first | replace hc := of_decide_eq_true hc | replace hc := of_decide_eq_false hc | replace hc := eq_of_beq hc | skip))
      | refine s_index1 tabOk rfl rfl rfl rfl (by omega) (by omega) ?_)
  refine aw_loop (fun s : Nat × World => [(5, .int .i64 s.1), (1, .int .i64 (n + s.1)), (0, .slice a xs.length c)]) (fun s => s.2)
    (fun s => s.1 ≤ xs.length ∧ OwnF s.2 base (.slice a xs.length c) (markTo n xs s.1) ∧ Below base W s.2 ∧ (∀ k, (Value.slice a xs.length c).ownBlock ≠ some k → s.2.heap[k]? = W.heap[k]?) ∧ s.2.heap.size = W.heap.size) (fun s => xs.length - s.1) (0, W)
    ⟨by omega, by rw [markTo_zero]; exact hu, Below.refl _ _, fun _ _ => rfl, rfl⟩ (by dsimp only; rw [show n + ((0 : Nat) : Int) = n by omega]; exact (by repeat (first | exact less_nil | refine less_cons rfl ?_))) rfl ?_
  rintro ⟨i, W1⟩ ⟨hi, hv, hW, hk, hs⟩
  dsimp only at hi hv hW hk hs ⊢
  have hml := markTo_len n xs i
  repeat' (first
      | refine s_pure tabOk rfl rfl rfl rfl ?_
      | refine aops_nil ?_
      | refine thn_normal ?_
      | refine aw_seq ?_
      | refine aw_reg ?_
      | refine s_pass rfl rfl rfl ?_
      | refine s_len tabOk rfl rfl rfl rfl ?_
      | refine aw_true rfl ?_
      | refine aw_false rfl ?_
      | refine aw_block ?_
      | refine aw_skip ?_
      | refine aw_exit ?_
      | refine blk_exit ?_
      | refine blk_exit_other rfl ?_
      | refine blk_normal ?_
      | refine thn_exit ?_
      | refine thn_ret ?_
      | refine blk_ret ?_
      | refine rnd_ret ?_
      | refine rnd_exit ?_
      | refine aw_ret ?_
      | refine s_arith tabOk rfl rfl rfl rfl (by simp only [InR]; omega) ?_
      | ((fail_if_success refine s_told rfl rfl ?_); refine s_part rfl rfl rfl ?_ ?_ <;> intro hc <;> (first | replace hc := of_decide_eq_true hc | replace hc := of_decide_eq_false hc | replace hc := eq_of_beq hc | skip))
      | (refine aw_if rfl ?_ ?_ <;> intro hc <;> (first | replace hc := of_decide_eq_true hc | replace hc := of_decide_eq_false hc | replace hc := eq_of_beq hc | skip))
      | refine s_index1 tabOk rfl rfl rfl rfl (by omega) (by omega) ?_)
  all_goals try (exfalso; omega)
  · obtain ⟨g, cap, cur, e1, e2, e3, e4⟩ := hv.row (by omega)
    rw [hml] at e1 e4
    cases e1
    repeat' (first
      | refine s_pure tabOk rfl rfl rfl rfl ?_
      | refine aops_nil ?_
      | refine thn_normal ?_
      | refine aw_seq ?_
      | refine aw_reg ?_
      | refine s_pass rfl rfl rfl ?_
      | refine s_len tabOk rfl rfl rfl rfl ?_
      | refine aw_true rfl ?_
      | refine aw_false rfl ?_
      | refine aw_block ?_
      | refine aw_skip ?_
      | refine aw_exit ?_
      | refine blk_exit ?_
      | refine blk_exit_other rfl ?_
      | refine blk_normal ?_
      | refine thn_exit ?_
      | refine thn_ret ?_
      | refine blk_ret ?_
      | refine rnd_ret ?_
      | refine rnd_exit ?_
      | refine aw_ret ?_
      | refine s_arith tabOk rfl rfl rfl rfl (by simp only [InR]; omega) ?_
      | ((fail_if_success refine s_told rfl rfl ?_); refine s_part rfl rfl rfl ?_ ?_ <;> intro hc <;> (first | replace hc := of_decide_eq_true hc | replace hc := of_decide_eq_false hc | replace hc := eq_of_beq hc | skip))
      | (refine aw_if rfl ?_ ?_ <;> intro hc <;> (first | replace hc := of_decide_eq_true hc | replace hc := of_decide_eq_false hc | replace hc := eq_of_beq hc | skip))
      | refine s_index1 tabOk rfl rfl rfl rfl (by omega) (by omega) ?_)
    refine s_store tabOk rfl rfl rfl rfl rfl rfl (by omega) e3 (show _ + 1 ≤ _ by omega) ?_
    simp only [Int.toNat_natCast, Nat.zero_add, Value.cells]
    repeat' (first
      | refine s_pure tabOk rfl rfl rfl rfl ?_
      | refine aops_nil ?_
      | refine thn_normal ?_
      | refine aw_seq ?_
      | refine aw_reg ?_
      | refine s_pass rfl rfl rfl ?_
      | refine s_len tabOk rfl rfl rfl rfl ?_
      | refine aw_true rfl ?_
      | refine aw_false rfl ?_
      | refine aw_block ?_
      | refine aw_skip ?_
      | refine aw_exit ?_
      | refine blk_exit ?_
      | refine blk_exit_other rfl ?_
      | refine blk_normal ?_
      | refine thn_exit ?_
      | refine thn_ret ?_
      | refine blk_ret ?_
      | refine rnd_ret ?_
      | refine rnd_exit ?_
      | refine aw_ret ?_
      | refine s_arith tabOk rfl rfl rfl rfl (by simp only [InR]; omega) ?_
      | ((fail_if_success refine s_told rfl rfl ?_); refine s_part rfl rfl rfl ?_ ?_ <;> intro hc <;> (first | replace hc := of_decide_eq_true hc | replace hc := of_decide_eq_false hc | replace hc := eq_of_beq hc | skip))
      | (refine aw_if rfl ?_ ?_ <;> intro hc <;> (first | replace hc := of_decide_eq_true hc | replace hc := of_decide_eq_false hc | replace hc := eq_of_beq hc | skip))
      | refine s_index1 tabOk rfl rfl rfl rfl (by omega) (by omega) ?_)
    refine rnd_next (i + 1, _) ⟨by dsimp only; omega, ?_, below_setRow hW e2 _, ?_, ?_⟩ (by dsimp only; omega) (by dsimp only; rw [show n + ((i + 1 : Nat) : Int) = n + i + 1 by omega]; exact (by repeat (first | exact less_nil | refine less_cons rfl ?_))) rfl
    · dsimp only
      rw [markTo_succ]
      have hv' := hv
      rw [← hml] at hv'
      have := hv'.set (i := i) e3 (by omega) (cb_fint (n + i))
      rw [hml] at this
      exact this
    · intro k hne
      show (W1.setRow g _).heap[k]? = _
      rw [setRow_other _ _ _ _ (fun e => hne (by rw [e]; rfl))]
      exact hk k hne
    · show (W1.setRow g _).heap.size = _
      rw [← hs]; simp [World.setRow]
  · have hil : i = xs.length := by omega
    subst hil
    exact retK_ret tabOk (congrArg Array.toList Try.results12) (rv_tmp rfl rfl rv_nil) ⟨rfl, hv, hW, hk, hs⟩
theorem c_laws_heldFloat32S {v : Value} {xs : List Nat} (hv : SlF W v xs) (hl : xs.length ≤ 1048576) {n : Int} (h0 : 0 ≤ n) (h1 : n ≤ 1099511627776) (hx : ∀ j, j < xs.length → xs.getD j 0 = fint .f32 (n + j)) :
    ACalls Try.prog B 15 [v, .int .i64 n] W (fun r W' => r = .int .i64 (n + xs.length) ∧ W' = W) := by
  obtain ⟨a, c, rfl⟩ := hv.form
  refine acalls_of Try.func15 rfl Try.ntmps15 (Nat.le_of_ble_eq_true rfl) ?_
  repeat' (first
      | refine s_pure tabOk rfl rfl rfl rfl ?_
      | refine aops_nil ?_
      | refine thn_normal ?_
      | refine aw_seq ?_
      | refine aw_reg ?_
      | refine s_pass rfl rfl rfl ?_
      | refine s_len tabOk rfl rfl rfl rfl ?_
      | refine aw_true rfl ?_
      | refine aw_false rfl ?_
      | refine aw_block ?_
      | refine aw_skip ?_
      | refine aw_exit ?_
      | refine blk_exit ?_
      | refine blk_exit_other rfl ?_
      | refine blk_normal ?_
      | refine thn_exit ?_
      | refine thn_ret ?_
      | refine blk_ret ?_
      | refine rnd_ret ?_
      | refine rnd_exit ?_
      | refine aw_ret ?_
      | refine s_arith tabOk rfl rfl rfl rfl (by simp only [InR]; omega) ?_
      | ((fail_if_success refine s_told rfl rfl ?_); refine s_part rfl rfl rfl ?_ ?_ <;> intro hc <;> (first | replace hc := of_decide_eq_true hc | replace hc := of_decide_eq_false hc | replace hc := eq_of_beq hc | skip))
      | (refine aw_if rfl ?_ ?_ <;> intro hc <;> (first | replace hc := of_decide_eq_true hc | replace hc := of_decide_eq_false hc | replace hc := eq_of_beq hc | skip))
      | refine s_index1 tabOk rfl rfl rfl rfl (by omega) (by omega) ?_)
  refine aw_loop (fun i : Nat => [(5, .int .i64 i), (1, .int .i64 (n + i)), (0, .slice a xs.length c)]) (fun _ => W) (fun i => i ≤ xs.length) (fun i => xs.length - i) 0 (by omega) (by rw [show n + ((0 : Nat) : Int) = n by omega]; exact (by repeat (first | exact less_nil | refine less_cons rfl ?_))) rfl ?_
  intro i hi
  repeat' (first
      | refine s_pure tabOk rfl rfl rfl rfl ?_
      | refine aops_nil ?_
      | refine thn_normal ?_
      | refine aw_seq ?_
      | refine aw_reg ?_
      | refine s_pass rfl rfl rfl ?_
      | refine s_len tabOk rfl rfl rfl rfl ?_
      | refine aw_true rfl ?_
      | refine aw_false rfl ?_
      | refine aw_block ?_
      | refine aw_skip ?_
      | refine aw_exit ?_
      | refine blk_exit ?_
      | refine blk_exit_other rfl ?_
      | refine blk_normal ?_
      | refine thn_exit ?_
      | refine thn_ret ?_
      | refine blk_ret ?_
      | refine rnd_ret ?_
      | refine rnd_exit ?_
      | refine aw_ret ?_
      | refine s_arith tabOk rfl rfl rfl rfl (by simp only [InR]; omega) ?_
      | ((fail_if_success refine s_told rfl rfl ?_); refine s_part rfl rfl rfl ?_ ?_ <;> intro hc <;> (first | replace hc := of_decide_eq_true hc | replace hc := of_decide_eq_false hc | replace hc := eq_of_beq hc | skip))
      | (refine aw_if rfl ?_ ?_ <;> intro hc <;> (first | replace hc := of_decide_eq_true hc | replace hc := of_decide_eq_false hc | replace hc := eq_of_beq hc | skip))
      | refine s_index1 tabOk rfl rfl rfl rfl (by omega) (by omega) ?_)
  all_goals try (exfalso; omega)
  · obtain ⟨b, off, rfl, hr⟩ := hv.read (by omega)
    repeat' (first
      | refine s_pure tabOk rfl rfl rfl rfl ?_
      | refine aops_nil ?_
      | refine thn_normal ?_
      | refine aw_seq ?_
      | refine aw_reg ?_
      | refine s_pass rfl rfl rfl ?_
      | refine s_len tabOk rfl rfl rfl rfl ?_
      | refine aw_true rfl ?_
      | refine aw_false rfl ?_
      | refine aw_block ?_
      | refine aw_skip ?_
      | refine aw_exit ?_
      | refine blk_exit ?_
      | refine blk_exit_other rfl ?_
      | refine blk_normal ?_
      | refine thn_exit ?_
      | refine thn_ret ?_
      | refine blk_ret ?_
      | refine rnd_ret ?_
      | refine rnd_exit ?_
      | refine aw_ret ?_
      | refine s_arith tabOk rfl rfl rfl rfl (by simp only [InR]; omega) ?_
      | ((fail_if_success refine s_told rfl rfl ?_); refine s_part rfl rfl rfl ?_ ?_ <;> intro hc <;> (first | replace hc := of_decide_eq_true hc | replace hc := of_decide_eq_false hc | replace hc := eq_of_beq hc | skip))
      | (refine aw_if rfl ?_ ?_ <;> intro hc <;> (first | replace hc := of_decide_eq_true hc | replace hc := of_decide_eq_false hc | replace hc := eq_of_beq hc | skip))
      | refine s_index1 tabOk rfl rfl rfl rfl (by omega) (by omega) ?_)
    refine s_loadf tabOk rfl rfl rfl rfl (hr _ (by omega)) ?_
    simp only [Int.toNat_natCast]
    rw [hx i (by omega)]
    repeat' (first
      | refine s_pure tabOk rfl rfl rfl rfl ?_
      | refine aops_nil ?_
      | refine thn_normal ?_
      | refine aw_seq ?_
      | refine aw_reg ?_
      | refine s_pass rfl rfl rfl ?_
      | refine s_len tabOk rfl rfl rfl rfl ?_
      | refine aw_true rfl ?_
      | refine aw_false rfl ?_
      | refine aw_block ?_
      | refine aw_skip ?_
      | refine aw_exit ?_
      | refine blk_exit ?_
      | refine blk_exit_other rfl ?_
      | refine blk_normal ?_
      | refine thn_exit ?_
      | refine thn_ret ?_
      | refine blk_ret ?_
      | refine rnd_ret ?_
      | refine rnd_exit ?_
      | refine aw_ret ?_
      | refine s_arith tabOk rfl rfl rfl rfl (by simp only [InR]; omega) ?_
      | ((fail_if_success refine s_told rfl rfl ?_); refine s_part rfl rfl rfl ?_ ?_ <;> intro hc <;> (first | replace hc := of_decide_eq_true hc | replace hc := of_decide_eq_false hc | replace hc := eq_of_beq hc | skip))
      | (refine aw_if rfl ?_ ?_ <;> intro hc <;> (first | replace hc := of_decide_eq_true hc | replace hc := of_decide_eq_false hc | replace hc := eq_of_beq hc | skip))
      | refine s_index1 tabOk rfl rfl rfl rfl (by omega) (by omega) ?_)
    · rw [fint_nonan] at hc; cases hc
    · refine rnd_next (i + 1) (by omega) (by omega) (by rw [show n + ((i + 1 : Nat) : Int) = n + i + 1 by omega]; exact (by repeat (first | exact less_nil | refine less_cons rfl ?_))) rfl
  · have hil : i = xs.length := by omega
    subst hil
    exact retK_ret tabOk (congrArg Array.toList Try.results15) (rv_tmp rfl rfl rv_nil) ⟨rfl, rfl⟩
end
end Go.Proofs.Ytmplincflbhmiaa
namespace Go.Proofs.Ytmplincflbhmiaa
set_option linter.unusedSimpArgs false
set_option linter.unusedVariables false
open Go Cn Go.RowKit
theorem OwnF.same {W W' : World} {base b : Nat} {v : Value} {xs : List Nat} (h : OwnF W base v xs) (s : Same b W W') (hne : ∀ k, v.ownBlock = some k → k ≠ b) : OwnF W' base v xs := h.keep fun k hk => s.heap k (hne k hk)
theorem OwnF.cap {W : World} {base n c : Nat} {a : Option Addr} {xs : List Nat} (h : OwnF W base (.slice a n c) xs) : n ≤ c := by
  rcases h.1.2 with ⟨e, -⟩ | ⟨g, cap, cur, e, -, -, h4, -⟩
  · cases e; exact Nat.le_refl _
  · cases e; exact h4
/-- a record whose list the call owns -/
def RecO (W : World) (base : Nat) (v : Value) (s : ByteArray) (st sp : Int) (xs : List Nat) : Prop := ∃ a c, v = .agg #[.string s, .int .i64 st, .int .i64 sp, .slice a xs.length c] ∧ OwnF W base (.slice a xs.length c) xs
theorem RecO.below {W W' : World} {base : Nat} {v : Value} {s : ByteArray} {st sp : Int} {xs : List Nat} (h : RecO W base v s st sp xs) (hb : Below W.heap.size W W') : RecO W' base v s st sp xs := by
  obtain ⟨a, c, h1, h2⟩ := h
  exact ⟨a, c, h1, h2.below hb⟩
section
variable {B : Nat} {W : World}
end
/-! ### a list cut, and appended -/
theorem SlF.cut {W : World} {a : Option Addr} {n c l h : Nat} {xs : List Nat} (hv : SlF W (.slice a n c) xs) (h1 : l ≤ h) (h2 : h ≤ xs.length) (hc : n ≤ c) : ∃ a' c', sliced a l h c 1 = .slice a' (h - l) c' ∧ SlF W (.slice a' (h - l) c') ((xs.drop l).take (h - l)) ∧ h - l ≤ c' := by
  have hlen : ((xs.drop l).take (h - l)).length = h - l := by simp; omega
  rcases hv with ⟨e, rfl⟩ | ⟨b, off, c', e, hr⟩
  · cases e
    simp at h2
    subst h2
    have : l = 0 := by omega
    subst this
    exact ⟨none, 0, rfl, .inl ⟨rfl, by simp⟩, by omega⟩
  · cases e
    by_cases hcl : c = l
    · refine ⟨some ⟨b, off, none⟩, c - l, by simp [sliced, hcl], .inr ⟨b, off, c - l, by rw [hlen], fun i hi => ?_⟩, by omega⟩
      rw [hlen] at hi; omega
    · refine ⟨some ⟨b, off + l, none⟩, c - l, ?_, .inr ⟨b, off + l, c - l, by rw [hlen], fun i hi => ?_⟩, by omega⟩
      · simp only [sliced, if_neg hcl, Option.map_some, Nat.mul_one]
        congr 2
        unfold Addr.add
        split
        · simp_all
        · rfl
      · rw [hlen] at hi
        obtain ⟨y, h3, h4⟩ := hr (l + i) (by omega)
        refine ⟨y, by rw [Nat.add_assoc]; exact h3, ?_⟩
        rw [h4]
        simp [List.getD_eq_getElem?_getD, hi]
section app
variable {P : Program} {N B : Nat} {E : Env} {W : World} {ops : Array Oper} {K : Exit → Env → World → Prop} {D : World → Prop} {T : Tab} {i : Nat} {rest : List Nat} {d : Nat} {op : Op} {ty : TypeId} {pos : String} {aft : Array Edge} {g : Option (Nat × Bool)}
end app
section
variable {B : Nat} {W : World}
end
end Go.Proofs.Ytmplincflbhmiaa
namespace Go.Proofs.Ytmplincflbhmiaa
set_option linter.unusedSimpArgs false
set_option linter.unusedVariables false
open Go Cn Go.RowKit
abbrev fRow (v : Value) (xs : List Nat) : Res := .row 32 1 v xs.length (xs.map (.float .f32))
section
variable {B : Nat} {A W W' : World} {l l' : List Res}
theorem one_floats (xs : List Nat) : (xs.map (Value.float .f32)).all (·.oneCell') = true := by simp [Value.oneCell']
theorem can_floats {xs : List Nat} (h : CanF xs) : Canl (xs.map (Value.float .f32)) := by
  intro x hx
  obtain ⟨y, hy, rfl⟩ := List.mem_map.1 hx
  obtain ⟨i, hi, rfl⟩ := List.getElem_of_mem hy
  have := h i hi
  simp only [List.getD_eq_getElem?_getD, List.getElem?_eq_getElem hi, Option.getD_some] at this
  simp [cl, this]
theorem canF_of {xs : List Nat} (h : Canl (xs.map (Value.float .f32))) : CanF xs := by
  intro i hi
  have := h (.float .f32 (xs.getD i 0)) (List.mem_map.2 ⟨xs.getD i 0, by rw [List.getD_eq_getElem?_getD, List.getElem?_eq_getElem hi]; exact List.getElem_mem hi, rfl⟩)
  simpa [cl] using this
theorem hp_of_own {v : Value} {xs : List Nat} (hB : B ≤ W.heap.size) (hb : Below W.heap.size W W') (hu : OwnF W' W.heap.size v xs) : Hp B W W' [fRow v xs] :=
  (Hp.new hB).add hb ⟨ownsRow_base hu.1 fun _ _ => Nat.zero_le _, one_floats xs, can_floats hu.2⟩ fun b hk => hu.lt b hk
theorem Hp.ownF {v : Value} {n : Nat} {xs : List Nat} (H : Hp B A W l) (hm : Res.row 32 1 v n (xs.map (.float .f32)) ∈ l) : OwnF W A.heap.size v xs := by
  obtain ⟨h1, h2, h3⟩ := H.ok _ hm
  have hn : n = xs.length := by have := h1.1; simp at this; omega
  subst hn
  exact ⟨ownsRow_base h1 fun b hb => (H.own _ hm b hb).1, canF_of h3⟩
theorem Hp.slF {v : Value} {n : Nat} {xs : List Nat} (H : Hp B A W l) (hm : Res.row 32 1 v n (xs.map (.float .f32)) ∈ l) : SlF W v xs := (Hp.ownF H hm).sl
theorem Hp.slFA {v : Value} {xs : List Nat} (H : Hp B A W l) (hv : SlF A v xs) : SlF W v xs := hv.below H.below
/-- marks, wherever the row lies -/
theorem hc_markFloat32S {v : Value} {nn : Nat} {xs : List Nat} {n : Int} (H : Hp B A W l) (hU : Upd l (.row 32 1 v nn (xs.map (.float .f32))) (.row 32 1 v nn ((markTo n xs xs.length).map (.float .f32))) l') (hl : xs.length ≤ 1048576) (h0 : 0 ≤ n) (h1 : n ≤ 1099511627776) :
    ACalls Try.prog B 12 [v, .int .i64 n] W (fun r W' => r = .int .i64 (n + xs.length) ∧ Hp B A W' l') := by
  have hm := hU.mem
  have hu := Hp.ownF H hm
  have hnn : nn = xs.length := by have := H.row_len hm; simp at this; omega
  refine (c_laws_markFloat32S hu H.hB hl h0 h1).mono fun r W' h => ?_
  obtain ⟨rfl, h2, h3, h4, h5⟩ := h
  refine ⟨rfl, H.upd hU (by rw [h5]; exact Nat.le_refl _) ?_ ?_ ?_ (fun k _ hk => h4 k hk) ⟨ownsRow_base (by rw [hnn]; have := h2.1; rwa [markTo_len] at this) fun _ _ => Nat.zero_le _, one_floats _, can_floats h2.2⟩ (fun k hk => .inl hk)⟩
  · exact h3.os
  · exact h3.tape
  · exact h3.output
theorem hc_heldFloat32S {v : Value} {nn : Nat} {xs : List Nat} {n : Int} (H : Hp B A W l) (hm : Res.row 32 1 v nn ((markTo n xs xs.length).map (.float .f32)) ∈ l) (hl : xs.length ≤ 1048576) (h0 : 0 ≤ n) (h1 : n ≤ 1099511627776) :
    ACalls Try.prog B 15 [v, .int .i64 n] W (fun r W' => r = .int .i64 (n + xs.length) ∧ W' = W) := by
  have h := c_laws_heldFloat32S (B := B) (Hp.slF H hm) (by rw [markTo_len]; exact hl) h0 h1 (fun j hj => markTo_at n xs xs.length j (Nat.le_refl _) (by rw [markTo_len] at hj; exact hj))
  rw [markTo_len] at h
  exact h
end
/-! ### records -/
section
variable {B : Nat} {A W W' : World} {l l' : List Res}
end
end Go.Proofs.Ytmplincflbhmiaa
namespace Go.Proofs.Ytmplincflbhmiaa.Cn
set_option linter.unusedSimpArgs false
set_option linter.unusedVariables false
open Go Go.RowKit
section
variable {P : Program} {N B : Nat} {E : Env} {A W : World} {ops : Array Oper} {K : Exit → Env → World → Prop} {T : Tab} {l l0 l' : List Res} {o : Oper}
variable {i : Nat} {rest q q' : List Nat} {d : Nat} {op : Op} {ty : TypeId} {pos : String} {aft : Array Edge} {g : Option (Nat × Bool)}
end
end Go.Proofs.Ytmplincflbhmiaa.Cn
