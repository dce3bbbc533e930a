/- Valid desks, both ways. -/
import Derived.Test.YthdnepjajhjmlaaGreatDoorXFb
import Derived.Test.YthdnepjajhjmlaaGreatDoorCn13
import Derived.Test.YthdnepjajhjmlaaGreatDoorHc
import Derived.Test.YthdnepjajhjmlaaGreatDoorXRg
import Derived.Test.YthdnepjajhjmlaaGreatDoorFz
import Derived.Laws.StructEq
namespace Go.Proofs.YthdnepjajhjmlaaGreatDoor
set_option linter.unusedSimpArgs false
set_option linter.unusedVariables false
open Go Cn Go.RowKit
theorem fint_nonan (n : Int) : fcmp .neq .f32 (fint .f32 n) (fint .f32 n) = false := by
  rw [neq_self]
  have h : (FloatKind.f32.decode (FloatKind.f32.nearest n)).isNaN = false := nearest_not_nan .f32 _ _ _
  unfold fint cb
  rw [if_neg (by simp [h])]
  exact h
theorem cb_fint (n : Int) : cb .f32 (fint .f32 n) = fint .f32 n := by unfold fint; rw [cb_cb]
def markTo (n : Int) (xs : List Nat) : Nat → List Nat
  | 0 => xs
  | i + 1 => (markTo n xs i).set i (fint .f32 (n + i))
theorem markTo_zero (n : Int) (xs : List Nat) : markTo n xs 0 = xs := rfl
theorem markTo_succ (n : Int) (xs : List Nat) (i : Nat) : markTo n xs (i + 1) = (markTo n xs i).set i (fint .f32 (n + i)) := rfl
theorem markTo_len (n : Int) (xs : List Nat) : ∀ i, (markTo n xs i).length = xs.length
  | 0 => rfl
  | i + 1 => by rw [markTo_succ, List.length_set, markTo_len n xs i]
theorem markTo_at (n : Int) (xs : List Nat) : ∀ (i j : Nat), i ≤ xs.length → j < i → (markTo n xs i).getD j 0 = fint .f32 (n + j)
  | i + 1, j, hi, hj => by
    rw [markTo_succ]
    by_cases h : j = i
    · subst h
      simp [List.getD_eq_getElem?_getD, markTo_len, show j < xs.length by omega]
    · have := markTo_at n xs i j (by omega) (by omega)
      simpa [List.getD_eq_getElem?_getD, List.getElem?_set, show ¬ i = j by omega] using this
attribute [irreducible] markTo
theorem OwnF.row {W : World} {base : Nat} {v : Value} {xs : List Nat} (h : OwnF W base v xs) (hp : 0 < xs.length) : ∃ g cap cur, v = .slice (some ⟨g, 0, none⟩) xs.length cap ∧ base ≤ g ∧ W.heap[g]? = some (.cells cur 47 (0, 0)) ∧ xs.length ≤ cur.size := by
  rcases h.1.2 with ⟨-, h0⟩ | ⟨g, cap, cur, h1, h2, h3, h4, h5, h6, h7⟩
  · omega
  · exact ⟨g, cap, cur, h1, h2, h3, by omega⟩
theorem OwnF.set {W : World} {base g cap : Nat} {cur : Array Value} {xs : List Nat} {i y : Nat} (h : OwnF W base (.slice (some ⟨g, 0, none⟩) xs.length cap) xs) (hg : W.heap[g]? = some (.cells cur 47 (0, 0))) (hi : i < xs.length) (hy : cb .f32 y = y) :
    OwnF (W.setRow g (splice cur i [.float .f32 y])) base (.slice (some ⟨g, 0, none⟩) xs.length cap) (xs.set i y) := by
  obtain ⟨⟨h1, h2⟩, h3⟩ := h
  rcases h2 with ⟨e, -⟩ | ⟨g', cap', cur', e, a1, a2, a3, a4, a5, a6⟩
  · cases e
  · cases e
    rw [hg] at a2
    cases a2
    refine ⟨⟨by simp, .inr ⟨g, cap, splice cur i [.float .f32 y], by simp, a1, setRow_heap _ _ _ _ _ _ hg, by simpa using a3, a4, ?_, ?_⟩⟩, ?_⟩
    · have hs : (splice cur i [.float .f32 y]).size = cur.size := by
        unfold splice
        simp only [List.size_toArray, List.length_append, List.length_take, List.length_drop, Array.length_toList, List.length_singleton]
        omega
      rw [hs]; exact a5
    · apply List.ext_getElem?
      intro j
      by_cases hj : j < xs.length
      · rw [List.getElem?_take, if_pos (by simpa using hj), Array.getElem?_toList, splice_one (by omega)]
        have hcur : cur[j]? = some (.float .f32 (xs.getD j 0)) := by
          have : (cur.toList.take (xs.length * 1))[j]? = some (.float .f32 (xs.getD j 0)) := by
            rw [a6]; simp [List.getD_eq_getElem?_getD, hj]
          rw [List.getElem?_take, if_pos (by omega)] at this
          simpa using this
        by_cases e : j = i
        · subst e; rw [if_pos rfl]; simp [hi]
        · rw [if_neg e, hcur]; simp [show ¬ i = j from fun h => e h.symm, hj, List.getD_eq_getElem?_getD]
      · rw [List.getElem?_take, if_neg (by simpa using hj), List.getElem?_eq_none (by simpa using hj)]
    · intro j hj
      have hj' : j < xs.length := by simpa using hj
      by_cases e : i = j
      · subst e; simpa [List.getD_eq_getElem?_getD, List.getElem?_set, hj'] using hy
      · have := h3 j hj'
        simpa [List.getD_eq_getElem?_getD, List.getElem?_set, e, hj'] using this
theorem OwnF.lt {W : World} {base : Nat} {v : Value} {xs : List Nat} (h : OwnF W base v xs) : ∀ k, v.ownBlock = some k → base ≤ k ∧ k < W.heap.size := by
  rcases h.1.2 with ⟨rfl, -⟩ | ⟨g, cap, cur, rfl, hg, hh, -⟩
  · intro k hk; cases hk
  · intro k hk; cases hk
    refine ⟨hg, ?_⟩
    rcases Nat.lt_or_ge g W.heap.size with h | h
    · exact h
    · rw [Array.getElem?_eq_none h] at hh; cases hh
theorem OwnF.keep {W W' : World} {base : Nat} {v : Value} {xs : List Nat} (h : OwnF W base v xs) (hk : ∀ k, v.ownBlock = some k → W'.heap[k]? = W.heap[k]?) : OwnF W' base v xs := by
  obtain ⟨⟨h1, h2⟩, h3⟩ := h
  refine ⟨⟨h1, ?_⟩, h3⟩
  rcases h2 with h2 | ⟨g, cap, cur, hv, hg, hh, r⟩
  · exact .inl h2
  · refine .inr ⟨g, cap, cur, hv, hg, ?_, r⟩
    rw [hk g (by rw [hv]; rfl)]; exact hh
theorem OwnF.len {W : World} {base n c : Nat} {a : Option Addr} {xs : List Nat} (h : OwnF W base (.slice a n c) xs) : n = xs.length := by
  rcases h.1.2 with ⟨e, h0⟩ | ⟨g, cap, cur, e, -⟩
  · cases e; exact h0.symm
  · cases e; rfl
theorem OwnF.below {W W' : World} {base : Nat} {v : Value} {xs : List Nat} (h : OwnF W base v xs) (hb : Below W.heap.size W W') : OwnF W' base v xs := ⟨owns_below hb h.1, h.2⟩
section
variable {B : Nat} {W : World}
theorem c_laws_markFloat32S {base : Nat} {v : Value} {xs : List Nat} (hu : OwnF W base v xs) (hB : B ≤ base) (hl : xs.length ≤ 1048576) {n : Int} (h0 : 0 ≤ n) (h1 : n ≤ 1099511627776) :
    ACalls Tryz.prog B 15 [v, .int .i64 n] W (fun r W' => r = .int .i64 (n + xs.length) ∧ OwnF W' base v (markTo n xs xs.length) ∧ Below base W W' ∧ (∀ k, v.ownBlock ≠ some k → W'.heap[k]? = W.heap[k]?) ∧ W'.heap.size = W.heap.size) := by
  obtain ⟨a, c, rfl⟩ := hu.sl.form
  refine acalls_of Tryz.func15 rfl Tryz.ntmps15 (Nat.le_of_ble_eq_true rfl) ?_
  repeat' (first
      | refine s_pure tabOk rfl rfl rfl rfl ?_
      | refine aops_nil ?_
      | refine thn_normal ?_
      | refine aw_seq ?_
      | refine aw_reg ?_
      | refine s_pass rfl rfl rfl ?_
      | refine s_len tabOk rfl rfl rfl rfl ?_
      | refine aw_true rfl ?_
      | refine aw_false rfl ?_
      | refine aw_block ?_
      | refine aw_skip ?_
      | refine aw_exit ?_
      | refine blk_exit ?_
      | refine blk_exit_other rfl ?_
      | refine blk_normal ?_
      | refine thn_exit ?_
      | refine thn_ret ?_
      | refine blk_ret ?_
      | refine rnd_ret ?_
      | refine rnd_exit ?_
      | refine aw_ret ?_
      | refine s_arith tabOk rfl rfl rfl rfl (by simp only [InR]; omega) ?_
      | ((fail_if_success refine s_told rfl rfl ?_); refine s_part rfl rfl rfl ?_ ?_ <;> intro hc <;> (first | replace hc := of_decide_eq_true hc | replace hc := of_decide_eq_false hc | replace hc := eq_of_beq hc | skip))
      | (refine aw_if rfl ?_ ?_ <;> intro hc <;> (first | replace hc := of_decide_eq_true hc | replace hc := of_decide_eq_false hc | replace hc := eq_of_beq hc | skip))
      | refine s_index1 tabOk rfl rfl rfl rfl (by omega) (by omega) ?_)
  refine aw_loop (fun s : Nat × World => [(5, .int .i64 s.1), (1, .int .i64 (n + s.1)), (0, .slice a xs.length c)]) (fun s => s.2)
    (fun s => s.1 ≤ xs.length ∧ OwnF s.2 base (.slice a xs.length c) (markTo n xs s.1) ∧ Below base W s.2 ∧ (∀ k, (Value.slice a xs.length c).ownBlock ≠ some k → s.2.heap[k]? = W.heap[k]?) ∧ s.2.heap.size = W.heap.size) (fun s => xs.length - s.1) (0, W)
    ⟨by omega, by rw [markTo_zero]; exact hu, Below.refl _ _, fun _ _ => rfl, rfl⟩ (by dsimp only; rw [show n + ((0 : Nat) : Int) = n by omega]; exact (by repeat (first | exact less_nil | refine less_cons rfl ?_))) rfl ?_
  rintro ⟨i, W1⟩ ⟨hi, hv, hW, hk, hs⟩
  dsimp only at hi hv hW hk hs ⊢
  have hml := markTo_len n xs i
  repeat' (first
      | refine s_pure tabOk rfl rfl rfl rfl ?_
      | refine aops_nil ?_
      | refine thn_normal ?_
      | refine aw_seq ?_
      | refine aw_reg ?_
      | refine s_pass rfl rfl rfl ?_
      | refine s_len tabOk rfl rfl rfl rfl ?_
      | refine aw_true rfl ?_
      | refine aw_false rfl ?_
      | refine aw_block ?_
      | refine aw_skip ?_
      | refine aw_exit ?_
      | refine blk_exit ?_
      | refine blk_exit_other rfl ?_
      | refine blk_normal ?_
      | refine thn_exit ?_
      | refine thn_ret ?_
      | refine blk_ret ?_
      | refine rnd_ret ?_
      | refine rnd_exit ?_
      | refine aw_ret ?_
      | refine s_arith tabOk rfl rfl rfl rfl (by simp only [InR]; omega) ?_
      | ((fail_if_success refine s_told rfl rfl ?_); refine s_part rfl rfl rfl ?_ ?_ <;> intro hc <;> (first | replace hc := of_decide_eq_true hc | replace hc := of_decide_eq_false hc | replace hc := eq_of_beq hc | skip))
      | (refine aw_if rfl ?_ ?_ <;> intro hc <;> (first | replace hc := of_decide_eq_true hc | replace hc := of_decide_eq_false hc | replace hc := eq_of_beq hc | skip))
      | refine s_index1 tabOk rfl rfl rfl rfl (by omega) (by omega) ?_)
  all_goals try (exfalso; omega)
  · obtain ⟨g, cap, cur, e1, e2, e3, e4⟩ := hv.row (by omega)
    rw [hml] at e1 e4
    cases e1
    repeat' (first
      | refine s_pure tabOk rfl rfl rfl rfl ?_
      | refine aops_nil ?_
      | refine thn_normal ?_
      | refine aw_seq ?_
      | refine aw_reg ?_
      | refine s_pass rfl rfl rfl ?_
      | refine s_len tabOk rfl rfl rfl rfl ?_
      | refine aw_true rfl ?_
      | refine aw_false rfl ?_
      | refine aw_block ?_
      | refine aw_skip ?_
      | refine aw_exit ?_
      | refine blk_exit ?_
      | refine blk_exit_other rfl ?_
      | refine blk_normal ?_
      | refine thn_exit ?_
      | refine thn_ret ?_
      | refine blk_ret ?_
      | refine rnd_ret ?_
      | refine rnd_exit ?_
      | refine aw_ret ?_
      | refine s_arith tabOk rfl rfl rfl rfl (by simp only [InR]; omega) ?_
      | ((fail_if_success refine s_told rfl rfl ?_); refine s_part rfl rfl rfl ?_ ?_ <;> intro hc <;> (first | replace hc := of_decide_eq_true hc | replace hc := of_decide_eq_false hc | replace hc := eq_of_beq hc | skip))
      | (refine aw_if rfl ?_ ?_ <;> intro hc <;> (first | replace hc := of_decide_eq_true hc | replace hc := of_decide_eq_false hc | replace hc := eq_of_beq hc | skip))
      | refine s_index1 tabOk rfl rfl rfl rfl (by omega) (by omega) ?_)
    refine s_store tabOk rfl rfl rfl rfl rfl rfl (by omega) e3 (show _ + 1 ≤ _ by omega) ?_
    simp only [Int.toNat_natCast, Nat.zero_add, Value.cells]
    repeat' (first
      | refine s_pure tabOk rfl rfl rfl rfl ?_
      | refine aops_nil ?_
      | refine thn_normal ?_
      | refine aw_seq ?_
      | refine aw_reg ?_
      | refine s_pass rfl rfl rfl ?_
      | refine s_len tabOk rfl rfl rfl rfl ?_
      | refine aw_true rfl ?_
      | refine aw_false rfl ?_
      | refine aw_block ?_
      | refine aw_skip ?_
      | refine aw_exit ?_
      | refine blk_exit ?_
      | refine blk_exit_other rfl ?_
      | refine blk_normal ?_
      | refine thn_exit ?_
      | refine thn_ret ?_
      | refine blk_ret ?_
      | refine rnd_ret ?_
      | refine rnd_exit ?_
      | refine aw_ret ?_
      | refine s_arith tabOk rfl rfl rfl rfl (by simp only [InR]; omega) ?_
      | ((fail_if_success refine s_told rfl rfl ?_); refine s_part rfl rfl rfl ?_ ?_ <;> intro hc <;> (first | replace hc := of_decide_eq_true hc | replace hc := of_decide_eq_false hc | replace hc := eq_of_beq hc | skip))
      | (refine aw_if rfl ?_ ?_ <;> intro hc <;> (first | replace hc := of_decide_eq_true hc | replace hc := of_decide_eq_false hc | replace hc := eq_of_beq hc | skip))
      | refine s_index1 tabOk rfl rfl rfl rfl (by omega) (by omega) ?_)
    refine rnd_next (i + 1, _) ⟨by dsimp only; omega, ?_, below_setRow hW e2 _, ?_, ?_⟩ (by dsimp only; omega) (by dsimp only; rw [show n + ((i + 1 : Nat) : Int) = n + i + 1 by omega]; exact (by repeat (first | exact less_nil | refine less_cons rfl ?_))) rfl
    · dsimp only
      rw [markTo_succ]
      have hv' := hv
      rw [← hml] at hv'
      have := hv'.set (i := i) e3 (by omega) (cb_fint (n + i))
      rw [hml] at this
      exact this
    · intro k hne
      show (W1.setRow g _).heap[k]? = _
      rw [setRow_other _ _ _ _ (fun e => hne (by rw [e]; rfl))]
      exact hk k hne
    · show (W1.setRow g _).heap.size = _
      rw [← hs]; simp [World.setRow]
  · have hil : i = xs.length := by omega
    subst hil
    exact retK_ret tabOk (congrArg Array.toList Tryz.results15) (rv_tmp rfl rfl rv_nil) ⟨rfl, hv, hW, hk, hs⟩
theorem c_laws_heldFloat32S {v : Value} {xs : List Nat} (hv : SlF W v xs) (hl : xs.length ≤ 1048576) {n : Int} (h0 : 0 ≤ n) (h1 : n ≤ 1099511627776) (hx : ∀ j, j < xs.length → xs.getD j 0 = fint .f32 (n + j)) :
    ACalls Tryz.prog B 16 [v, .int .i64 n] W (fun r W' => r = .int .i64 (n + xs.length) ∧ W' = W) := by
  obtain ⟨a, c, rfl⟩ := hv.form
  refine acalls_of Tryz.func16 rfl Tryz.ntmps16 (Nat.le_of_ble_eq_true rfl) ?_
  repeat' (first
      | refine s_pure tabOk rfl rfl rfl rfl ?_
      | refine aops_nil ?_
      | refine thn_normal ?_
      | refine aw_seq ?_
      | refine aw_reg ?_
      | refine s_pass rfl rfl rfl ?_
      | refine s_len tabOk rfl rfl rfl rfl ?_
      | refine aw_true rfl ?_
      | refine aw_false rfl ?_
      | refine aw_block ?_
      | refine aw_skip ?_
      | refine aw_exit ?_
      | refine blk_exit ?_
      | refine blk_exit_other rfl ?_
      | refine blk_normal ?_
      | refine thn_exit ?_
      | refine thn_ret ?_
      | refine blk_ret ?_
      | refine rnd_ret ?_
      | refine rnd_exit ?_
      | refine aw_ret ?_
      | refine s_arith tabOk rfl rfl rfl rfl (by simp only [InR]; omega) ?_
      | ((fail_if_success refine s_told rfl rfl ?_); refine s_part rfl rfl rfl ?_ ?_ <;> intro hc <;> (first | replace hc := of_decide_eq_true hc | replace hc := of_decide_eq_false hc | replace hc := eq_of_beq hc | skip))
      | (refine aw_if rfl ?_ ?_ <;> intro hc <;> (first | replace hc := of_decide_eq_true hc | replace hc := of_decide_eq_false hc | replace hc := eq_of_beq hc | skip))
      | refine s_index1 tabOk rfl rfl rfl rfl (by omega) (by omega) ?_)
  refine aw_loop (fun i : Nat => [(5, .int .i64 i), (1, .int .i64 (n + i)), (0, .slice a xs.length c)]) (fun _ => W) (fun i => i ≤ xs.length) (fun i => xs.length - i) 0 (by omega) (by rw [show n + ((0 : Nat) : Int) = n by omega]; exact (by repeat (first | exact less_nil | refine less_cons rfl ?_))) rfl ?_
  intro i hi
  repeat' (first
      | refine s_pure tabOk rfl rfl rfl rfl ?_
      | refine aops_nil ?_
      | refine thn_normal ?_
      | refine aw_seq ?_
      | refine aw_reg ?_
      | refine s_pass rfl rfl rfl ?_
      | refine s_len tabOk rfl rfl rfl rfl ?_
      | refine aw_true rfl ?_
      | refine aw_false rfl ?_
      | refine aw_block ?_
      | refine aw_skip ?_
      | refine aw_exit ?_
      | refine blk_exit ?_
      | refine blk_exit_other rfl ?_
      | refine blk_normal ?_
      | refine thn_exit ?_
      | refine thn_ret ?_
      | refine blk_ret ?_
      | refine rnd_ret ?_
      | refine rnd_exit ?_
      | refine aw_ret ?_
      | refine s_arith tabOk rfl rfl rfl rfl (by simp only [InR]; omega) ?_
      | ((fail_if_success refine s_told rfl rfl ?_); refine s_part rfl rfl rfl ?_ ?_ <;> intro hc <;> (first | replace hc := of_decide_eq_true hc | replace hc := of_decide_eq_false hc | replace hc := eq_of_beq hc | skip))
      | (refine aw_if rfl ?_ ?_ <;> intro hc <;> (first | replace hc := of_decide_eq_true hc | replace hc := of_decide_eq_false hc | replace hc := eq_of_beq hc | skip))
      | refine s_index1 tabOk rfl rfl rfl rfl (by omega) (by omega) ?_)
  all_goals try (exfalso; omega)
  · obtain ⟨b, off, rfl, hr⟩ := hv.read (by omega)
    repeat' (first
      | refine s_pure tabOk rfl rfl rfl rfl ?_
      | refine aops_nil ?_
      | refine thn_normal ?_
      | refine aw_seq ?_
      | refine aw_reg ?_
      | refine s_pass rfl rfl rfl ?_
      | refine s_len tabOk rfl rfl rfl rfl ?_
      | refine aw_true rfl ?_
      | refine aw_false rfl ?_
      | refine aw_block ?_
      | refine aw_skip ?_
      | refine aw_exit ?_
      | refine blk_exit ?_
      | refine blk_exit_other rfl ?_
      | refine blk_normal ?_
      | refine thn_exit ?_
      | refine thn_ret ?_
      | refine blk_ret ?_
      | refine rnd_ret ?_
      | refine rnd_exit ?_
      | refine aw_ret ?_
      | refine s_arith tabOk rfl rfl rfl rfl (by simp only [InR]; omega) ?_
      | ((fail_if_success refine s_told rfl rfl ?_); refine s_part rfl rfl rfl ?_ ?_ <;> intro hc <;> (first | replace hc := of_decide_eq_true hc | replace hc := of_decide_eq_false hc | replace hc := eq_of_beq hc | skip))
      | (refine aw_if rfl ?_ ?_ <;> intro hc <;> (first | replace hc := of_decide_eq_true hc | replace hc := of_decide_eq_false hc | replace hc := eq_of_beq hc | skip))
      | refine s_index1 tabOk rfl rfl rfl rfl (by omega) (by omega) ?_)
    refine s_loadf tabOk rfl rfl rfl rfl (hr _ (by omega)) ?_
    simp only [Int.toNat_natCast]
    rw [hx i (by omega)]
    repeat' (first
      | refine s_pure tabOk rfl rfl rfl rfl ?_
      | refine aops_nil ?_
      | refine thn_normal ?_
      | refine aw_seq ?_
      | refine aw_reg ?_
      | refine s_pass rfl rfl rfl ?_
      | refine s_len tabOk rfl rfl rfl rfl ?_
      | refine aw_true rfl ?_
      | refine aw_false rfl ?_
      | refine aw_block ?_
      | refine aw_skip ?_
      | refine aw_exit ?_
      | refine blk_exit ?_
      | refine blk_exit_other rfl ?_
      | refine blk_normal ?_
      | refine thn_exit ?_
      | refine thn_ret ?_
      | refine blk_ret ?_
      | refine rnd_ret ?_
      | refine rnd_exit ?_
      | refine aw_ret ?_
      | refine s_arith tabOk rfl rfl rfl rfl (by simp only [InR]; omega) ?_
      | ((fail_if_success refine s_told rfl rfl ?_); refine s_part rfl rfl rfl ?_ ?_ <;> intro hc <;> (first | replace hc := of_decide_eq_true hc | replace hc := of_decide_eq_false hc | replace hc := eq_of_beq hc | skip))
      | (refine aw_if rfl ?_ ?_ <;> intro hc <;> (first | replace hc := of_decide_eq_true hc | replace hc := of_decide_eq_false hc | replace hc := eq_of_beq hc | skip))
      | refine s_index1 tabOk rfl rfl rfl rfl (by omega) (by omega) ?_)
    · rw [fint_nonan] at hc; cases hc
    · refine rnd_next (i + 1) (by omega) (by omega) (by rw [show n + ((i + 1 : Nat) : Int) = n + i + 1 by omega]; exact (by repeat (first | exact less_nil | refine less_cons rfl ?_))) rfl
  · have hil : i = xs.length := by omega
    subst hil
    exact retK_ret tabOk (congrArg Array.toList Tryz.results16) (rv_tmp rfl rfl rv_nil) ⟨rfl, rfl⟩
end
end Go.Proofs.YthdnepjajhjmlaaGreatDoor
namespace Go.Proofs.YthdnepjajhjmlaaGreatDoor
set_option linter.unusedSimpArgs false
set_option linter.unusedVariables false
open Go Cn Go.RowKit
theorem OwnF.same {W W' : World} {base b : Nat} {v : Value} {xs : List Nat} (h : OwnF W base v xs) (s : Same b W W') (hne : ∀ k, v.ownBlock = some k → k ≠ b) : OwnF W' base v xs := h.keep fun k hk => s.heap k (hne k hk)
theorem OwnF.cap {W : World} {base n c : Nat} {a : Option Addr} {xs : List Nat} (h : OwnF W base (.slice a n c) xs) : n ≤ c := by
  rcases h.1.2 with ⟨e, -⟩ | ⟨g, cap, cur, e, -, -, h4, -⟩
  · cases e; exact Nat.le_refl _
  · cases e; exact h4
/-- a record whose list the call owns -/
def RecO (W : World) (base : Nat) (v : Value) (s : ByteArray) (st sp : Int) (xs : List Nat) : Prop := ∃ a c, v = .agg #[.string s, .int .i64 st, .int .i64 sp, .slice a xs.length c] ∧ OwnF W base (.slice a xs.length c) xs
theorem RecO.below {W W' : World} {base : Nat} {v : Value} {s : ByteArray} {st sp : Int} {xs : List Nat} (h : RecO W base v s st sp xs) (hb : Below W.heap.size W W') : RecO W' base v s st sp xs := by
  obtain ⟨a, c, h1, h2⟩ := h
  exact ⟨a, c, h1, h2.below hb⟩
section
variable {B : Nat} {W : World}
end
/-! ### a list cut, and appended -/
theorem SlF.cut {W : World} {a : Option Addr} {n c l h : Nat} {xs : List Nat} (hv : SlF W (.slice a n c) xs) (h1 : l ≤ h) (h2 : h ≤ xs.length) (hc : n ≤ c) : ∃ a' c', sliced a l h c 1 = .slice a' (h - l) c' ∧ SlF W (.slice a' (h - l) c') ((xs.drop l).take (h - l)) ∧ h - l ≤ c' := by
  have hlen : ((xs.drop l).take (h - l)).length = h - l := by simp; omega
  rcases hv with ⟨e, rfl⟩ | ⟨b, off, c', e, hr⟩
  · cases e
    simp at h2
    subst h2
    have : l = 0 := by omega
    subst this
    exact ⟨none, 0, rfl, .inl ⟨rfl, by simp⟩, by omega⟩
  · cases e
    by_cases hcl : c = l
    · refine ⟨some ⟨b, off, none⟩, c - l, by simp [sliced, hcl], .inr ⟨b, off, c - l, by rw [hlen], fun i hi => ?_⟩, by omega⟩
      rw [hlen] at hi; omega
    · refine ⟨some ⟨b, off + l, none⟩, c - l, ?_, .inr ⟨b, off + l, c - l, by rw [hlen], fun i hi => ?_⟩, by omega⟩
      · simp only [sliced, if_neg hcl, Option.map_some, Nat.mul_one]
        congr 2
        unfold Addr.add
        split
        · simp_all
        · rfl
      · rw [hlen] at hi
        obtain ⟨y, h3, h4⟩ := hr (l + i) (by omega)
        refine ⟨y, by rw [Nat.add_assoc]; exact h3, ?_⟩
        rw [h4]
        simp [List.getD_eq_getElem?_getD, hi]
section app
variable {P : Program} {N B : Nat} {E : Env} {W : World} {ops : Array Oper} {K : Exit → Env → World → Prop} {D : World → Prop} {T : Tab} {i : Nat} {rest : List Nat} {d : Nat} {op : Op} {ty : TypeId} {pos : String} {aft : Array Edge} {g : Option (Nat × Bool)}
end app
section
variable {B : Nat} {W : World}
end
end Go.Proofs.YthdnepjajhjmlaaGreatDoor
namespace Go.Proofs.YthdnepjajhjmlaaGreatDoor
set_option linter.unusedSimpArgs false
set_option linter.unusedVariables false
open Go Cn Go.RowKit
section
variable {B : Nat} {A W W' : World} {l l' : List Res}
theorem one_floats (xs : List Nat) : (xs.map (Value.float .f32)).all (·.oneCell') = true := by simp [Value.oneCell']
theorem can_floats {xs : List Nat} (h : CanF xs) : Canl (xs.map (Value.float .f32)) := by
  intro x hx
  obtain ⟨y, hy, rfl⟩ := List.mem_map.1 hx
  obtain ⟨i, hi, rfl⟩ := List.getElem_of_mem hy
  have := h i hi
  simp only [List.getD_eq_getElem?_getD, List.getElem?_eq_getElem hi, Option.getD_some] at this
  simp [cl, this]
theorem canF_of {xs : List Nat} (h : Canl (xs.map (Value.float .f32))) : CanF xs := by
  intro i hi
  have := h (.float .f32 (xs.getD i 0)) (List.mem_map.2 ⟨xs.getD i 0, by rw [List.getD_eq_getElem?_getD, List.getElem?_eq_getElem hi]; exact List.getElem_mem hi, rfl⟩)
  simpa [cl] using this
theorem Hp.ownF {v : Value} {n : Nat} {xs : List Nat} (H : Hp B A W l) (hm : Res.row 47 1 v n (xs.map (.float .f32)) ∈ l) : OwnF W A.heap.size v xs := by
  obtain ⟨h1, h2, h3⟩ := H.ok _ hm
  have hn : n = xs.length := by have := h1.1; simp at this; omega
  subst hn
  exact ⟨ownsRow_base h1 fun b hb => (H.own _ hm b hb).1, canF_of h3⟩
theorem Hp.slF {v : Value} {n : Nat} {xs : List Nat} (H : Hp B A W l) (hm : Res.row 47 1 v n (xs.map (.float .f32)) ∈ l) : SlF W v xs := (Hp.ownF H hm).sl
theorem Hp.slFA {v : Value} {xs : List Nat} (H : Hp B A W l) (hv : SlF A v xs) : SlF W v xs := hv.below H.below
theorem SlF.slV {a : Option Addr} {c : Nat} {xs : List Nat} (h : SlF W (.slice a xs.length c) xs) (hc : xs.length ≤ c) : SlV W 1 (.slice a xs.length c) xs.length (xs.map (.float .f32)) := by
  refine ⟨by simp, ?_⟩
  rcases h with ⟨h1, rfl⟩ | ⟨b, off, c', h1, h2⟩
  · exact .inl ⟨rfl, .inl h1⟩
  · cases h1
    refine .inr ⟨b, off, c, rfl, hc, fun i hi => ?_⟩
    obtain ⟨y, h3, h4⟩ := h2 i (by simpa using hi)
    refine ⟨_, h3, ?_, rfl⟩
    have hi' : i < xs.length := by simpa using hi
    simp only [cl, h4]
    simp [List.getD_eq_getElem?_getD, hi']
/-- marks, wherever the row lies -/
theorem hc_markFloat32S {v : Value} {nn : Nat} {xs : List Nat} {n : Int} (H : Hp B A W l) (hU : Upd l (.row 47 1 v nn (xs.map (.float .f32))) (.row 47 1 v nn ((markTo n xs xs.length).map (.float .f32))) l') (hl : xs.length ≤ 1048576) (h0 : 0 ≤ n) (h1 : n ≤ 1099511627776) :
    ACalls Tryz.prog B 15 [v, .int .i64 n] W (fun r W' => r = .int .i64 (n + xs.length) ∧ Hp B A W' l') := by
  have hm := hU.mem
  have hu := Hp.ownF H hm
  have hnn : nn = xs.length := by have := H.row_len hm; simp at this; omega
  refine (c_laws_markFloat32S hu H.hB hl h0 h1).mono fun r W' h => ?_
  obtain ⟨rfl, h2, h3, h4, h5⟩ := h
  refine ⟨rfl, H.upd hU (by rw [h5]; exact Nat.le_refl _) ?_ ?_ ?_ (fun k _ hk => h4 k hk) ⟨ownsRow_base (by rw [hnn]; have := h2.1; rwa [markTo_len] at this) fun _ _ => Nat.zero_le _, one_floats _, can_floats h2.2⟩ (fun k hk => .inl hk)⟩
  · exact h3.os
  · exact h3.tape
  · exact h3.output
theorem hc_heldFloat32S {v : Value} {nn : Nat} {xs : List Nat} {n : Int} (H : Hp B A W l) (hm : Res.row 47 1 v nn ((markTo n xs xs.length).map (.float .f32)) ∈ l) (hl : xs.length ≤ 1048576) (h0 : 0 ≤ n) (h1 : n ≤ 1099511627776) :
    ACalls Tryz.prog B 16 [v, .int .i64 n] W (fun r W' => r = .int .i64 (n + xs.length) ∧ W' = W) := by
  have h := c_laws_heldFloat32S (B := B) (Hp.slF H hm) (by rw [markTo_len]; exact hl) h0 h1 (fun j hj => markTo_at n xs xs.length j (Nat.le_refl _) (by rw [markTo_len] at hj; exact hj))
  rw [markTo_len] at h
  exact h
end
/-! ### records -/
section
variable {B : Nat} {A W W' : World} {l l' : List Res}
end
end Go.Proofs.YthdnepjajhjmlaaGreatDoor
namespace Go.Proofs.YthdnepjajhjmlaaGreatDoor.Cn
set_option linter.unusedSimpArgs false
set_option linter.unusedVariables false
open Go Go.RowKit
section
variable {P : Program} {N B : Nat} {E : Env} {A W : World} {ops : Array Oper} {K : Exit → Env → World → Prop} {T : Tab} {l l0 l' : List Res} {o : Oper}
variable {i : Nat} {rest q q' : List Nat} {d : Nat} {op : Op} {ty : TypeId} {pos : String} {aft : Array Edge} {g : Option (Nat × Bool)}
theorem sh_loadq (hT : TabOk P T) {b j x : Nat} {k : FloatKind} {c : List Value} {e : TypeId} (H : Hp B A W l) (ho : getL ops.toList i = some ⟨some d, op, ty, pos, aft, g⟩) (hg : guardE ops ⟨some d, op, ty, pos, aft, g⟩ E = some true) (hd : Nat.ble (d + 1) N = true)
    (hv : evLd T E ⟨some d, op, ty, pos, aft, g⟩ = some ⟨b, j, none⟩) (hm : Res.blk b c e ∈ l) (hj : subCells c j 1 = some [.float k x]) (h : AOps P N B ops rest K ((d, .float k x) :: E) W) : AOps P N B ops (i :: rest) K E W := by
  refine sh_load hT H ho hg hd hv hm hj ?_ h
  have h1 := (subCells_spec _ _ _ _ hj).1
  have hmem : Value.float k x ∈ c := List.mem_of_mem_drop (List.mem_of_mem_take (h1 ▸ List.mem_cons_self ..))
  have := (H.ok _ hm).2 _ hmem
  simpa [cl, cv, Cn.c1] using this
end
end Go.Proofs.YthdnepjajhjmlaaGreatDoor.Cn
namespace Go.Proofs.YthdnepjajhjmlaaGreatDoor
set_option linter.unusedSimpArgs false
set_option linter.unusedVariables false
open Go Cn Go.RowKit
section
variable {B : Nat} {W : World}
theorem all_no {p : Nat → Bool} {xs : List Nat} {i : Nat} (hi : i < xs.length) (h : p (xs.getD i 0) = false) : xs.all p = false := by
  rw [List.all_eq_false]
  refine ⟨xs[i], List.getElem_mem hi, ?_⟩
  simpa [List.getD_eq_getElem?_getD, hi] using h
theorem c_spec_l02Finite {v : Value} {xs : List Nat} (hv : SlF W v xs) (hl : xs.length ≤ 1048576) : ACalls Tryz.prog B 46 [v] W (fun r W' => r = .bool (xs.all (isFin .f32)) ∧ W' = W) := by
  obtain ⟨a, c, rfl⟩ := hv.form
  refine acalls_of Tryz.func46 rfl Tryz.ntmps46 (Nat.le_of_ble_eq_true rfl) ?_
  repeat' (first
      | refine s_pure tabOk rfl rfl rfl rfl ?_
      | refine aops_nil ?_
      | refine thn_normal ?_
      | refine aw_seq ?_
      | refine aw_reg ?_
      | refine s_pass rfl rfl rfl ?_
      | refine s_len tabOk rfl rfl rfl rfl ?_
      | refine aw_true rfl ?_
      | refine aw_false rfl ?_
      | refine aw_block ?_
      | refine aw_skip ?_
      | refine aw_exit ?_
      | refine blk_exit ?_
      | refine blk_exit_other rfl ?_
      | refine blk_normal ?_
      | refine thn_exit ?_
      | refine thn_ret ?_
      | refine blk_ret ?_
      | refine rnd_ret ?_
      | refine rnd_exit ?_
      | refine aw_ret ?_
      | refine s_arith tabOk rfl rfl rfl rfl (by simp only [InR]; omega) ?_
      | ((fail_if_success refine s_told rfl rfl ?_); refine s_part rfl rfl rfl ?_ ?_ <;> intro hc <;> (first | replace hc := of_decide_eq_true hc | replace hc := of_decide_eq_false hc | replace hc := eq_of_beq hc | skip))
      | (refine aw_if rfl ?_ ?_ <;> intro hc <;> (first | replace hc := of_decide_eq_true hc | replace hc := of_decide_eq_false hc | replace hc := eq_of_beq hc | skip))
      | refine s_index1 tabOk rfl rfl rfl rfl (by omega) (by omega) ?_)
  refine aw_loop (fun i : Nat => [(3, .int .i64 i), (0, .slice a xs.length c)]) (fun _ => W) (fun i => i ≤ xs.length ∧ ∀ j, j < i → isFin .f32 (xs.getD j 0) = true) (fun i => xs.length - i) 0 ⟨by omega, by omega⟩ (by repeat (first | exact less_nil | refine less_cons rfl ?_)) rfl ?_
  rintro i ⟨hi, ha⟩
  repeat' (first
      | refine s_pure tabOk rfl rfl rfl rfl ?_
      | refine aops_nil ?_
      | refine thn_normal ?_
      | refine aw_seq ?_
      | refine aw_reg ?_
      | refine s_pass rfl rfl rfl ?_
      | refine s_len tabOk rfl rfl rfl rfl ?_
      | refine aw_true rfl ?_
      | refine aw_false rfl ?_
      | refine aw_block ?_
      | refine aw_skip ?_
      | refine aw_exit ?_
      | refine blk_exit ?_
      | refine blk_exit_other rfl ?_
      | refine blk_normal ?_
      | refine thn_exit ?_
      | refine thn_ret ?_
      | refine blk_ret ?_
      | refine rnd_ret ?_
      | refine rnd_exit ?_
      | refine aw_ret ?_
      | refine s_arith tabOk rfl rfl rfl rfl (by simp only [InR]; omega) ?_
      | ((fail_if_success refine s_told rfl rfl ?_); refine s_part rfl rfl rfl ?_ ?_ <;> intro hc <;> (first | replace hc := of_decide_eq_true hc | replace hc := of_decide_eq_false hc | replace hc := eq_of_beq hc | skip))
      | (refine aw_if rfl ?_ ?_ <;> intro hc <;> (first | replace hc := of_decide_eq_true hc | replace hc := of_decide_eq_false hc | replace hc := eq_of_beq hc | skip))
      | refine s_index1 tabOk rfl rfl rfl rfl (by omega) (by omega) ?_)
  · obtain ⟨b, off, rfl, hr⟩ := hv.read (by omega)
    repeat' (first
      | refine s_pure tabOk rfl rfl rfl rfl ?_
      | refine aops_nil ?_
      | refine thn_normal ?_
      | refine aw_seq ?_
      | refine aw_reg ?_
      | refine s_pass rfl rfl rfl ?_
      | refine s_len tabOk rfl rfl rfl rfl ?_
      | refine aw_true rfl ?_
      | refine aw_false rfl ?_
      | refine aw_block ?_
      | refine aw_skip ?_
      | refine aw_exit ?_
      | refine blk_exit ?_
      | refine blk_exit_other rfl ?_
      | refine blk_normal ?_
      | refine thn_exit ?_
      | refine thn_ret ?_
      | refine blk_ret ?_
      | refine rnd_ret ?_
      | refine rnd_exit ?_
      | refine aw_ret ?_
      | refine s_arith tabOk rfl rfl rfl rfl (by simp only [InR]; omega) ?_
      | ((fail_if_success refine s_told rfl rfl ?_); refine s_part rfl rfl rfl ?_ ?_ <;> intro hc <;> (first | replace hc := of_decide_eq_true hc | replace hc := of_decide_eq_false hc | replace hc := eq_of_beq hc | skip))
      | (refine aw_if rfl ?_ ?_ <;> intro hc <;> (first | replace hc := of_decide_eq_true hc | replace hc := of_decide_eq_false hc | replace hc := eq_of_beq hc | skip))
      | refine s_index1 tabOk rfl rfl rfl rfl (by omega) (by omega) ?_)
    refine s_loadf tabOk rfl rfl rfl rfl (hr _ (by omega)) ?_
    simp only [Int.toNat_natCast]
    repeat' (first
      | refine s_pure tabOk rfl rfl rfl rfl ?_
      | refine aops_nil ?_
      | refine thn_normal ?_
      | refine aw_seq ?_
      | refine aw_reg ?_
      | refine s_pass rfl rfl rfl ?_
      | refine s_len tabOk rfl rfl rfl rfl ?_
      | refine aw_true rfl ?_
      | refine aw_false rfl ?_
      | refine aw_block ?_
      | refine aw_skip ?_
      | refine aw_exit ?_
      | refine blk_exit ?_
      | refine blk_exit_other rfl ?_
      | refine blk_normal ?_
      | refine thn_exit ?_
      | refine thn_ret ?_
      | refine blk_ret ?_
      | refine rnd_ret ?_
      | refine rnd_exit ?_
      | refine aw_ret ?_
      | refine s_arith tabOk rfl rfl rfl rfl (by simp only [InR]; omega) ?_
      | ((fail_if_success refine s_told rfl rfl ?_); refine s_part rfl rfl rfl ?_ ?_ <;> intro hc <;> (first | replace hc := of_decide_eq_true hc | replace hc := of_decide_eq_false hc | replace hc := eq_of_beq hc | skip))
      | (refine aw_if rfl ?_ ?_ <;> intro hc <;> (first | replace hc := of_decide_eq_true hc | replace hc := of_decide_eq_false hc | replace hc := eq_of_beq hc | skip))
      | refine s_index1 tabOk rfl rfl rfl rfl (by omega) (by omega) ?_)
    refine s_call rfl rfl rfl rfl ent63 (c_spec_l01Finite _) ?_
    rintro _ W ⟨rfl, rfl⟩
    repeat' (first
      | refine s_pure tabOk rfl rfl rfl rfl ?_
      | refine aops_nil ?_
      | refine thn_normal ?_
      | refine aw_seq ?_
      | refine aw_reg ?_
      | refine s_pass rfl rfl rfl ?_
      | refine s_len tabOk rfl rfl rfl rfl ?_
      | refine aw_true rfl ?_
      | refine aw_false rfl ?_
      | refine aw_block ?_
      | refine aw_skip ?_
      | refine aw_exit ?_
      | refine blk_exit ?_
      | refine blk_exit_other rfl ?_
      | refine blk_normal ?_
      | refine thn_exit ?_
      | refine thn_ret ?_
      | refine blk_ret ?_
      | refine rnd_ret ?_
      | refine rnd_exit ?_
      | refine aw_ret ?_
      | refine s_arith tabOk rfl rfl rfl rfl (by simp only [InR]; omega) ?_
      | ((fail_if_success refine s_told rfl rfl ?_); refine s_part rfl rfl rfl ?_ ?_ <;> intro hc <;> (first | replace hc := of_decide_eq_true hc | replace hc := of_decide_eq_false hc | replace hc := eq_of_beq hc | skip))
      | (refine aw_if rfl ?_ ?_ <;> intro hc <;> (first | replace hc := of_decide_eq_true hc | replace hc := of_decide_eq_false hc | replace hc := eq_of_beq hc | skip))
      | refine s_index1 tabOk rfl rfl rfl rfl (by omega) (by omega) ?_)
    · refine retK_ret tabOk (congrArg Array.toList Tryz.results46) (rv_tmp rfl rfl rv_nil) ⟨?_, rfl⟩
      rw [all_no (i := i) (by omega) (by simpa using hc)]; rfl
    · refine rnd_next (i + 1) ⟨by omega, ?_⟩ (by omega) (by repeat (first | exact less_nil | refine less_cons rfl ?_)) rfl
      intro j hj
      by_cases e : j = i
      · subst e; simpa using hc
      · exact ha j (by omega)
  · refine retK_ret tabOk (congrArg Array.toList Tryz.results46) (rv_tmp rfl rfl rv_nil) ⟨?_, rfl⟩
    rw [all_getD fun j hj => ha j (by omega)]; rfl
theorem OwnF.one {W : World} {x : Nat} (hx : cb .f32 x = x) : OwnF (W.alloc (.cells (cellsAll [.float .f32 x]) 47)) W.heap.size (.slice (some ⟨W.heap.size, 0, none⟩) 1 1) [x] := by
  refine ⟨⟨rfl, .inr ⟨W.heap.size, 1, cellsAll [.float .f32 x], rfl, Nat.le_refl _, heap_alloc_new W _, by simp, by decide, rfl, rfl⟩⟩, fun i hi => ?_⟩
  have : i = 0 := by simpa using hi
  subst this
  exact hx
end
end Go.Proofs.YthdnepjajhjmlaaGreatDoor
namespace Go.Proofs.YthdnepjajhjmlaaGreatDoor
set_option linter.unusedSimpArgs false
set_option linter.unusedVariables false
open Go Cn Go.RowKit
structure Dsk where
  w : Int
  h : Int
  hs : List Nat
  s0 : Nat
  s1 : Nat
  s2 : Nat
  s3 : Nat
  s4 : Nat
  t0 : Nat
  t1 : Nat
  t2 : Nat
  t3 : Nat
  r : Riv
abbrev hillV (d : Dsk) (a : Option Addr) (c : Nat) : Value := .agg #[.int .i64 d.w, .int .i64 d.h, .slice a d.hs.length c]
/-- what is read of a desk -/
structure DkS (W : World) (d : Dsk) (a : Option Addr) (c : Nat) (p1 : Option Addr) (k1 : Nat) (p2 : Option Addr) (k2 : Nat) (p3 : Option Addr) (k3 : Nat) : Prop where
  hs : SlF W (.slice a d.hs.length c) d.hs
  r : RvS W p1 k1 p2 k2 p3 k3 d.r
def Dsk.small (d : Dsk) : Prop := d.hs.length ≤ 1048576 ∧ d.r.small
section
variable {B : Nat} {A W W' : World} {L L' : List Res} {p1 p2 p3 p4 p5 p6 a a' : Option Addr} {k1 k2 k3 k4 k5 k6 c c' : Nat} {d : Dsk}
theorem DkS.below (h : DkS A d a c p1 k1 p2 k2 p3 k3) (hb : Below A.heap.size A W) : DkS W d a c p1 k1 p2 k2 p3 k3 := ⟨h.hs.below hb, h.r.below hb⟩
theorem hx_eqHill (H : Hp B A W L) (h1 : SlF W (.slice a d.hs.length c) d.hs) (h2 : SlF W (.slice a' d.hs.length c') d.hs) (hs : d.hs.length ≤ 1048576) :
    ACalls Tryz.prog B 6 [hillV d a c, hillV d a' c'] W (fun u W' => u = .bool true ∧ Hp B A W' L) := by
  have HH := H
  have hB := H.size
  clear H
  have H0 : Hp B W W [] := Hp.new hB
  refine acalls_of Tryz.func6 rfl Tryz.ntmps6 (Nat.le_of_ble_eq_true rfl) ?_
  repeat' (first | refine s_pure tabOk rfl rfl rfl rfl ?_ | refine Stp.imp ?_ | refine aops_nil ?_ | refine aw_reg ?_ | refine aw_seq ?_ | refine s_pass rfl rfl rfl ?_ | refine s_len tabOk rfl rfl rfl rfl ?_ | refine aw_true rfl ?_ | refine aw_false rfl ?_ | refine blk_exit_other rfl ?_ | refine s_arith tabOk rfl rfl rfl rfl (by simp only [InR]; omega) ?_ | ((first | ((fail_if_success refine s_told rfl rfl ?_); refine s_part rfl rfl rfl ?_ ?_) | refine aw_if rfl ?_ ?_) <;> intro hc <;> (first | replace hc := DecT.imp hc | simp only [decs] at hc | skip)) | refine s_index1n tabOk rfl rfl rfl rfl (by omega) ?_ | refine s_indexn tabOk rfl rfl rfl rfl (by omega) ?_ | refine s_index1 tabOk rfl rfl rfl rfl (by omega) (by omega) ?_ | refine sh_load tabOk (by assumption) rfl rfl rfl rfl (by repeat (first | exact List.Mem.head _ | apply List.Mem.tail)) (by rfl) (by rfl) ?_ | refine sh_loadq tabOk (by assumption) rfl rfl rfl rfl (by repeat (first | exact List.Mem.head _ | apply List.Mem.tail)) (by rfl) ?_ | refine sh_loada tabOk (by assumption) rfl rfl rfl rfl (by repeat (first | exact List.Mem.head _ | apply List.Mem.tail)) (by rfl) ?_ | (refine sh_box (by assumption) rfl rfl rfl rfl rfl rfl ?_; intro _ _ _) | (refine sh_alloc tabOk (by assumption) rfl rfl rfl rfl rfl rfl ?_; intro _ _ _) | (refine sh_store tabOk (by assumption) rfl rfl rfl rfl rfl rfl (by repeat (first | exact Upd.here | apply Upd.there)) (by rfl) ?_; intro _ _) | (refine sh_lit tabOk (by assumption) rfl rfl rfl rfl rfl rfl rfl rfl rfl rfl rfl ?_; intro _ _ _) | refine sh_build tabOk rfl rfl rfl rfl rfl rfl ?_)
  refine s_call rfl rfl rfl rfl ent14 (c_laws_eqFloat32S (Hp.slFA (by assumption) h1) (Hp.slFA (by assumption) h2) hs) ?_
  rintro _ _ ⟨rfl, rfl⟩
  repeat' (first | refine s_pure tabOk rfl rfl rfl rfl ?_ | refine Stp.imp ?_ | refine aops_nil ?_ | refine aw_reg ?_ | refine aw_seq ?_ | refine s_pass rfl rfl rfl ?_ | refine s_len tabOk rfl rfl rfl rfl ?_ | refine aw_true rfl ?_ | refine aw_false rfl ?_ | refine blk_exit_other rfl ?_ | refine s_arith tabOk rfl rfl rfl rfl (by simp only [InR]; omega) ?_ | ((first | ((fail_if_success refine s_told rfl rfl ?_); refine s_part rfl rfl rfl ?_ ?_) | refine aw_if rfl ?_ ?_) <;> intro hc <;> (first | replace hc := DecT.imp hc | simp only [decs] at hc | skip)) | refine s_index1n tabOk rfl rfl rfl rfl (by omega) ?_ | refine s_indexn tabOk rfl rfl rfl rfl (by omega) ?_ | refine s_index1 tabOk rfl rfl rfl rfl (by omega) (by omega) ?_ | refine sh_load tabOk (by assumption) rfl rfl rfl rfl (by repeat (first | exact List.Mem.head _ | apply List.Mem.tail)) (by rfl) (by rfl) ?_ | refine sh_loadq tabOk (by assumption) rfl rfl rfl rfl (by repeat (first | exact List.Mem.head _ | apply List.Mem.tail)) (by rfl) ?_ | refine sh_loada tabOk (by assumption) rfl rfl rfl rfl (by repeat (first | exact List.Mem.head _ | apply List.Mem.tail)) (by rfl) ?_ | (refine sh_box (by assumption) rfl rfl rfl rfl rfl rfl ?_; intro _ _ _) | (refine sh_alloc tabOk (by assumption) rfl rfl rfl rfl rfl rfl ?_; intro _ _ _) | (refine sh_store tabOk (by assumption) rfl rfl rfl rfl rfl rfl (by repeat (first | exact Upd.here | apply Upd.there)) (by rfl) ?_; intro _ _) | (refine sh_lit tabOk (by assumption) rfl rfl rfl rfl rfl rfl rfl rfl rfl rfl rfl ?_; intro _ _ _) | refine sh_build tabOk rfl rfl rfl rfl rfl rfl ?_)
  refine retK_ret tabOk (congrArg Array.toList Tryz.results6) (rv_tmp rfl rfl rv_nil) ?_
  exact ⟨rfl, HH.call0 (Hp.sub (by assumption) (by repeat (first | exact List.nil_sublist _ | refine List.Sublist.cons_cons _ ?_ | refine List.Sublist.cons _ ?_)))⟩
theorem hx_markHill {n : Int} (H : Hp B A W L)
    (hU0 : Upd L (.row 47 1 (.slice a d.hs.length c) d.hs.length (d.hs.map (.float .f32))) (.row 47 1 (.slice a d.hs.length c) d.hs.length ((markTo n d.hs d.hs.length).map (.float .f32))) L')
    (hs : d.hs.length ≤ 1048576) (h0 : 0 ≤ n) (h1 : n ≤ 1000000) :
    ACalls Tryz.prog B 7 [hillV d a c, .int .i64 n] W (fun u W' => u = .int .i64 (n + d.hs.length) ∧ Hp B A W' L') := by
  refine acalls_of Tryz.func7 rfl Tryz.ntmps7 (Nat.le_of_ble_eq_true rfl) ?_
  repeat' (first | refine s_pure tabOk rfl rfl rfl rfl ?_ | refine Stp.imp ?_ | refine aops_nil ?_ | refine aw_reg ?_ | refine aw_seq ?_ | refine s_pass rfl rfl rfl ?_ | refine s_len tabOk rfl rfl rfl rfl ?_ | refine aw_true rfl ?_ | refine aw_false rfl ?_ | refine blk_exit_other rfl ?_ | refine s_arith tabOk rfl rfl rfl rfl (by simp only [InR]; omega) ?_ | ((first | ((fail_if_success refine s_told rfl rfl ?_); refine s_part rfl rfl rfl ?_ ?_) | refine aw_if rfl ?_ ?_) <;> intro hc <;> (first | replace hc := DecT.imp hc | simp only [decs] at hc | skip)) | refine s_index1n tabOk rfl rfl rfl rfl (by omega) ?_ | refine s_indexn tabOk rfl rfl rfl rfl (by omega) ?_ | refine s_index1 tabOk rfl rfl rfl rfl (by omega) (by omega) ?_ | refine sh_load tabOk (by assumption) rfl rfl rfl rfl (by repeat (first | exact List.Mem.head _ | apply List.Mem.tail)) (by rfl) (by rfl) ?_ | refine sh_loadq tabOk (by assumption) rfl rfl rfl rfl (by repeat (first | exact List.Mem.head _ | apply List.Mem.tail)) (by rfl) ?_ | refine sh_loada tabOk (by assumption) rfl rfl rfl rfl (by repeat (first | exact List.Mem.head _ | apply List.Mem.tail)) (by rfl) ?_ | (refine sh_box (by assumption) rfl rfl rfl rfl rfl rfl ?_; intro _ _ _) | (refine sh_alloc tabOk (by assumption) rfl rfl rfl rfl rfl rfl ?_; intro _ _ _) | (refine sh_store tabOk (by assumption) rfl rfl rfl rfl rfl rfl (by repeat (first | exact Upd.here | apply Upd.there)) (by rfl) ?_; intro _ _) | (refine sh_lit tabOk (by assumption) rfl rfl rfl rfl rfl rfl rfl rfl rfl rfl rfl ?_; intro _ _ _) | refine sh_build tabOk rfl rfl rfl rfl rfl rfl ?_)
  refine s_call rfl rfl rfl rfl ent15 (hc_markFloat32S (by assumption) (Upd.there hU0) hs h0 (by omega)) ?_
  rintro _ W2 ⟨rfl, H2⟩
  repeat' (first | refine s_pure tabOk rfl rfl rfl rfl ?_ | refine Stp.imp ?_ | refine aops_nil ?_ | refine aw_reg ?_ | refine aw_seq ?_ | refine s_pass rfl rfl rfl ?_ | refine s_len tabOk rfl rfl rfl rfl ?_ | refine aw_true rfl ?_ | refine aw_false rfl ?_ | refine blk_exit_other rfl ?_ | refine s_arith tabOk rfl rfl rfl rfl (by simp only [InR]; omega) ?_ | ((first | ((fail_if_success refine s_told rfl rfl ?_); refine s_part rfl rfl rfl ?_ ?_) | refine aw_if rfl ?_ ?_) <;> intro hc <;> (first | replace hc := DecT.imp hc | simp only [decs] at hc | skip)) | refine s_index1n tabOk rfl rfl rfl rfl (by omega) ?_ | refine s_indexn tabOk rfl rfl rfl rfl (by omega) ?_ | refine s_index1 tabOk rfl rfl rfl rfl (by omega) (by omega) ?_ | refine sh_load tabOk (by assumption) rfl rfl rfl rfl (by repeat (first | exact List.Mem.head _ | apply List.Mem.tail)) (by rfl) (by rfl) ?_ | refine sh_loadq tabOk (by assumption) rfl rfl rfl rfl (by repeat (first | exact List.Mem.head _ | apply List.Mem.tail)) (by rfl) ?_ | refine sh_loada tabOk (by assumption) rfl rfl rfl rfl (by repeat (first | exact List.Mem.head _ | apply List.Mem.tail)) (by rfl) ?_ | (refine sh_box (by assumption) rfl rfl rfl rfl rfl rfl ?_; intro _ _ _) | (refine sh_alloc tabOk (by assumption) rfl rfl rfl rfl rfl rfl ?_; intro _ _ _) | (refine sh_store tabOk (by assumption) rfl rfl rfl rfl rfl rfl (by repeat (first | exact Upd.here | apply Upd.there)) (by rfl) ?_; intro _ _) | (refine sh_lit tabOk (by assumption) rfl rfl rfl rfl rfl rfl rfl rfl rfl rfl rfl ?_; intro _ _ _) | refine sh_build tabOk rfl rfl rfl rfl rfl rfl ?_)
  refine retK_ret tabOk (congrArg Array.toList Tryz.results7) (rv_tmp rfl rfl rv_nil) ?_
  exact ⟨rfl, H2.sub (List.sublist_cons_self _ _)⟩
theorem hx_heldHill {n : Int} (H : Hp B A W L)
    (m0 : Res.row 47 1 (.slice a d.hs.length c) d.hs.length ((markTo n d.hs d.hs.length).map (.float .f32)) ∈ L)
    (hs : d.hs.length ≤ 1048576) (h0 : 0 ≤ n) (h1 : n ≤ 1000000) :
    ACalls Tryz.prog B 8 [hillV d a c, .int .i64 n] W (fun u W' => u = .int .i64 (n + d.hs.length) ∧ Hp B A W' L) := by
  refine acalls_of Tryz.func8 rfl Tryz.ntmps8 (Nat.le_of_ble_eq_true rfl) ?_
  repeat' (first | refine s_pure tabOk rfl rfl rfl rfl ?_ | refine Stp.imp ?_ | refine aops_nil ?_ | refine aw_reg ?_ | refine aw_seq ?_ | refine s_pass rfl rfl rfl ?_ | refine s_len tabOk rfl rfl rfl rfl ?_ | refine aw_true rfl ?_ | refine aw_false rfl ?_ | refine blk_exit_other rfl ?_ | refine s_arith tabOk rfl rfl rfl rfl (by simp only [InR]; omega) ?_ | ((first | ((fail_if_success refine s_told rfl rfl ?_); refine s_part rfl rfl rfl ?_ ?_) | refine aw_if rfl ?_ ?_) <;> intro hc <;> (first | replace hc := DecT.imp hc | simp only [decs] at hc | skip)) | refine s_index1n tabOk rfl rfl rfl rfl (by omega) ?_ | refine s_indexn tabOk rfl rfl rfl rfl (by omega) ?_ | refine s_index1 tabOk rfl rfl rfl rfl (by omega) (by omega) ?_ | refine sh_load tabOk (by assumption) rfl rfl rfl rfl (by repeat (first | exact List.Mem.head _ | apply List.Mem.tail)) (by rfl) (by rfl) ?_ | refine sh_loadq tabOk (by assumption) rfl rfl rfl rfl (by repeat (first | exact List.Mem.head _ | apply List.Mem.tail)) (by rfl) ?_ | refine sh_loada tabOk (by assumption) rfl rfl rfl rfl (by repeat (first | exact List.Mem.head _ | apply List.Mem.tail)) (by rfl) ?_ | (refine sh_box (by assumption) rfl rfl rfl rfl rfl rfl ?_; intro _ _ _) | (refine sh_alloc tabOk (by assumption) rfl rfl rfl rfl rfl rfl ?_; intro _ _ _) | (refine sh_store tabOk (by assumption) rfl rfl rfl rfl rfl rfl (by repeat (first | exact Upd.here | apply Upd.there)) (by rfl) ?_; intro _ _) | (refine sh_lit tabOk (by assumption) rfl rfl rfl rfl rfl rfl rfl rfl rfl rfl rfl ?_; intro _ _ _) | refine sh_build tabOk rfl rfl rfl rfl rfl rfl ?_)
  refine s_call rfl rfl rfl rfl ent16 (hc_heldFloat32S (by assumption) (List.Mem.tail _ m0) hs h0 (by omega)) ?_
  rintro _ _ ⟨rfl, rfl⟩
  repeat' (first | refine s_pure tabOk rfl rfl rfl rfl ?_ | refine Stp.imp ?_ | refine aops_nil ?_ | refine aw_reg ?_ | refine aw_seq ?_ | refine s_pass rfl rfl rfl ?_ | refine s_len tabOk rfl rfl rfl rfl ?_ | refine aw_true rfl ?_ | refine aw_false rfl ?_ | refine blk_exit_other rfl ?_ | refine s_arith tabOk rfl rfl rfl rfl (by simp only [InR]; omega) ?_ | ((first | ((fail_if_success refine s_told rfl rfl ?_); refine s_part rfl rfl rfl ?_ ?_) | refine aw_if rfl ?_ ?_) <;> intro hc <;> (first | replace hc := DecT.imp hc | simp only [decs] at hc | skip)) | refine s_index1n tabOk rfl rfl rfl rfl (by omega) ?_ | refine s_indexn tabOk rfl rfl rfl rfl (by omega) ?_ | refine s_index1 tabOk rfl rfl rfl rfl (by omega) (by omega) ?_ | refine sh_load tabOk (by assumption) rfl rfl rfl rfl (by repeat (first | exact List.Mem.head _ | apply List.Mem.tail)) (by rfl) (by rfl) ?_ | refine sh_loadq tabOk (by assumption) rfl rfl rfl rfl (by repeat (first | exact List.Mem.head _ | apply List.Mem.tail)) (by rfl) ?_ | refine sh_loada tabOk (by assumption) rfl rfl rfl rfl (by repeat (first | exact List.Mem.head _ | apply List.Mem.tail)) (by rfl) ?_ | (refine sh_box (by assumption) rfl rfl rfl rfl rfl rfl ?_; intro _ _ _) | (refine sh_alloc tabOk (by assumption) rfl rfl rfl rfl rfl rfl ?_; intro _ _ _) | (refine sh_store tabOk (by assumption) rfl rfl rfl rfl rfl rfl (by repeat (first | exact Upd.here | apply Upd.there)) (by rfl) ?_; intro _ _) | (refine sh_lit tabOk (by assumption) rfl rfl rfl rfl rfl rfl rfl rfl rfl rfl rfl ?_; intro _ _ _) | refine sh_build tabOk rfl rfl rfl rfl rfl rfl ?_)
  all_goals try (exfalso; omega)
  refine retK_ret tabOk (congrArg Array.toList Tryz.results8) (rv_tmp rfl rfl rv_nil) ?_
  exact ⟨rfl, Hp.sub (by assumption) (List.sublist_cons_self _ _)⟩
end
end Go.Proofs.YthdnepjajhjmlaaGreatDoor
namespace Go.Proofs.YthdnepjajhjmlaaGreatDoor
set_option linter.unusedSimpArgs false
set_option linter.unusedVariables false
open Go Cn Go.RowKit
/-! ### the sign, seen in the wider number -/
end Go.Proofs.YthdnepjajhjmlaaGreatDoor
namespace Go.Proofs.YthdnepjajhjmlaaGreatDoor
set_option linter.unusedSimpArgs false
set_option linter.unusedVariables false
open Go Cn Go.RowKit
section
variable {B : Nat} {A W W' : World} {L L' : List Res}
end
end Go.Proofs.YthdnepjajhjmlaaGreatDoor
namespace Go.Proofs.YthdnepjajhjmlaaGreatDoor
set_option linter.unusedSimpArgs false
set_option linter.unusedVariables false
open Go Cn Go.RowKit
set_option linter.unusedSimpArgs false
set_option linter.unusedVariables false
instance : DecidableEq Dm := fun a b => decidable_of_iff (a.sz = b.sz ∧ a.dd = b.dd ∧ a.ls = b.ls ∧ a.nw = b.nw) (by cases a; cases b; simp)
section
variable {N B : Nat} {E : Env} {W : World} {o : Oper}
theorem gh_rd {b k off i : Nat} {ys : List Value} {v : Value} (hv : evLd tab E o = some ⟨b, k, none⟩) (hr : RdV W b off ys) (hk : k = off + i) (hi : i < ys.length) (hy : ys.getD i undef = v) : Gives Tryz.prog N B o E W v W := by
  obtain ⟨u, h1, h2, h3⟩ := hr i hi
  refine gh_read tabOk hv hr hk hi hy ?_
  rw [← hy, ← h2]; exact cv_cl1 h3
end
section
variable {B : Nat} {A W W' : World} {L L' : List Res}
end
end Go.Proofs.YthdnepjajhjmlaaGreatDoor
namespace Go.Proofs.YthdnepjajhjmlaaGreatDoor
set_option linter.unusedSimpArgs false
set_option linter.unusedVariables false
open Go Cn Go.RowKit
section
variable {B : Nat} {A W W' : World} {L L' : List Res} {p1 p2 p3 p4 p5 p6 a a' : Option Addr} {k1 k2 k3 k4 k5 k6 c c' : Nat} {d e : Dsk} {r s : Riv}
theorem blkRd {b : Nat} {c : List Value} {e : TypeId} (h : (Res.blk b c e).ok W) (h1 : allOne c = true) : RdV W b 0 c := by
  intro i hi
  obtain ⟨v, hv⟩ : ∃ v, c[i]? = some v := ⟨c[i], by simp [hi]⟩
  refine ⟨v, ?_, ?_, ?_⟩
  · have := h.1.cell hv
    simpa using this
  · rw [List.getD_eq_getElem?_getD, hv]; exact h.2 v (List.mem_of_getElem? hv)
  · exact List.all_eq_true.1 (allOne_spec c h1) v (List.mem_of_getElem? hv)
end
end Go.Proofs.YthdnepjajhjmlaaGreatDoor
namespace Go.Proofs.YthdnepjajhjmlaaGreatDoor
set_option linter.unusedSimpArgs false
set_option linter.unusedVariables false
open Go Cn Go.RowKit
set_option linter.unusedSimpArgs false
set_option linter.unusedVariables false
def side1 (x : Int) : Bool := decide (1 ≤ x) && decide (x ≤ 16)
theorem side1_iff {x : Int} : side1 x = true ↔ 1 ≤ x ∧ x ≤ 16 := by simp [side1]
def vdH (d : Dsk) : Bool := (side1 d.w && side1 d.h) && (decide ((d.hs.length : Int) = d.w * d.h) && d.hs.all (isFin .f32))
theorem mul_side {x y : Int} (hx : 1 ≤ x ∧ x ≤ 16) (hy : 1 ≤ y ∧ y ≤ 16) : 0 ≤ x * y ∧ x * y ≤ 256 :=
  ⟨Int.mul_nonneg (by omega) (by omega), by have := Int.mul_le_mul hx.2 hy.2 (by omega) (by omega); omega⟩
section
variable {B : Nat} {A W W' : World} {L L' : List Res} {p1 p2 p3 p4 p5 p6 a a' : Option Addr} {k1 k2 k3 k4 k5 k6 c c' : Nat} {d e : Dsk} {r s : Riv}
theorem c_impl_isSide (x y : Int) : ACalls Tryz.prog B 40 [.int .i64 x, .int .i64 y] W (fun v W' => v = .bool (side1 x && side1 y) ∧ W' = W) := by
  refine acalls_of Tryz.func40 rfl Tryz.ntmps40 (Nat.le_of_ble_eq_true rfl) ?_
  repeat' (first | refine s_pure tabOk rfl rfl rfl rfl ?_ | refine Stp.imp ?_ | refine aops_nil ?_ | refine aw_reg ?_ | refine aw_seq ?_ | refine s_pass rfl rfl rfl ?_ | refine s_len tabOk rfl rfl rfl rfl ?_ | refine aw_true rfl ?_ | refine aw_false rfl ?_ | refine blk_exit_other rfl ?_ | refine s_arith tabOk rfl rfl rfl rfl (by simp only [InR]; omega) ?_ | ((first | ((fail_if_success refine s_told rfl rfl ?_); refine s_part rfl rfl rfl ?_ ?_) | refine aw_if rfl ?_ ?_) <;> intro hc <;> (first | replace hc := DecT.imp hc | simp only [decs] at hc | skip)) | refine s_index1n tabOk rfl rfl rfl rfl (by omega) ?_ | refine s_indexn tabOk rfl rfl rfl rfl (by omega) ?_ | refine s_index1 tabOk rfl rfl rfl rfl (by omega) (by omega) ?_ | refine sh_load tabOk (by assumption) rfl rfl rfl rfl (by repeat (first | exact List.Mem.head _ | apply List.Mem.tail)) (by rfl) (by rfl) ?_ | refine sh_loada tabOk (by assumption) rfl rfl rfl rfl (by repeat (first | exact List.Mem.head _ | apply List.Mem.tail)) (by rfl) ?_ | (refine sh_box (by assumption) rfl rfl rfl rfl rfl rfl ?_; intro _ _ _) | (refine sh_alloc tabOk (by assumption) rfl rfl rfl rfl rfl rfl ?_; intro _ _ _) | (refine sh_store tabOk (by assumption) rfl rfl rfl rfl rfl rfl (by repeat (first | exact Upd.here | apply Upd.there)) (by rfl) ?_; intro _ _) | (refine sh_lit tabOk (by assumption) rfl rfl rfl rfl rfl rfl rfl rfl rfl rfl rfl ?_; intro _ _ _) | refine sh_build tabOk rfl rfl rfl rfl rfl rfl ?_)
  refine s_call rfl rfl rfl rfl ent36 (c_impl_within _ _ _) ?_
  rintro _ _ ⟨rfl, rfl⟩
  rw [show (decide (1 ≤ x) && decide (x ≤ 16)) = side1 x from rfl]
  cases h1 : side1 x
  · repeat' (first | refine s_pure tabOk rfl rfl rfl rfl ?_ | refine Stp.imp ?_ | refine aops_nil ?_ | refine aw_reg ?_ | refine aw_seq ?_ | refine s_pass rfl rfl rfl ?_ | refine s_len tabOk rfl rfl rfl rfl ?_ | refine aw_true rfl ?_ | refine aw_false rfl ?_ | refine blk_exit_other rfl ?_ | refine s_arith tabOk rfl rfl rfl rfl (by simp only [InR]; omega) ?_ | ((first | ((fail_if_success refine s_told rfl rfl ?_); refine s_part rfl rfl rfl ?_ ?_) | refine aw_if rfl ?_ ?_) <;> intro hc <;> (first | replace hc := DecT.imp hc | simp only [decs] at hc | skip)) | refine s_index1n tabOk rfl rfl rfl rfl (by omega) ?_ | refine s_indexn tabOk rfl rfl rfl rfl (by omega) ?_ | refine s_index1 tabOk rfl rfl rfl rfl (by omega) (by omega) ?_ | refine sh_load tabOk (by assumption) rfl rfl rfl rfl (by repeat (first | exact List.Mem.head _ | apply List.Mem.tail)) (by rfl) (by rfl) ?_ | refine sh_loada tabOk (by assumption) rfl rfl rfl rfl (by repeat (first | exact List.Mem.head _ | apply List.Mem.tail)) (by rfl) ?_ | (refine sh_box (by assumption) rfl rfl rfl rfl rfl rfl ?_; intro _ _ _) | (refine sh_alloc tabOk (by assumption) rfl rfl rfl rfl rfl rfl ?_; intro _ _ _) | (refine sh_store tabOk (by assumption) rfl rfl rfl rfl rfl rfl (by repeat (first | exact Upd.here | apply Upd.there)) (by rfl) ?_; intro _ _) | (refine sh_lit tabOk (by assumption) rfl rfl rfl rfl rfl rfl rfl rfl rfl rfl rfl ?_; intro _ _ _) | refine sh_build tabOk rfl rfl rfl rfl rfl rfl ?_)
    refine retK_ret tabOk (congrArg Array.toList Tryz.results40) (rv_tmp rfl rfl rv_nil) ?_
    exact ⟨rfl, rfl⟩
  repeat' (first | refine s_pure tabOk rfl rfl rfl rfl ?_ | refine Stp.imp ?_ | refine aops_nil ?_ | refine aw_reg ?_ | refine aw_seq ?_ | refine s_pass rfl rfl rfl ?_ | refine s_len tabOk rfl rfl rfl rfl ?_ | refine aw_true rfl ?_ | refine aw_false rfl ?_ | refine blk_exit_other rfl ?_ | refine s_arith tabOk rfl rfl rfl rfl (by simp only [InR]; omega) ?_ | ((first | ((fail_if_success refine s_told rfl rfl ?_); refine s_part rfl rfl rfl ?_ ?_) | refine aw_if rfl ?_ ?_) <;> intro hc <;> (first | replace hc := DecT.imp hc | simp only [decs] at hc | skip)) | refine s_index1n tabOk rfl rfl rfl rfl (by omega) ?_ | refine s_indexn tabOk rfl rfl rfl rfl (by omega) ?_ | refine s_index1 tabOk rfl rfl rfl rfl (by omega) (by omega) ?_ | refine sh_load tabOk (by assumption) rfl rfl rfl rfl (by repeat (first | exact List.Mem.head _ | apply List.Mem.tail)) (by rfl) (by rfl) ?_ | refine sh_loada tabOk (by assumption) rfl rfl rfl rfl (by repeat (first | exact List.Mem.head _ | apply List.Mem.tail)) (by rfl) ?_ | (refine sh_box (by assumption) rfl rfl rfl rfl rfl rfl ?_; intro _ _ _) | (refine sh_alloc tabOk (by assumption) rfl rfl rfl rfl rfl rfl ?_; intro _ _ _) | (refine sh_store tabOk (by assumption) rfl rfl rfl rfl rfl rfl (by repeat (first | exact Upd.here | apply Upd.there)) (by rfl) ?_; intro _ _) | (refine sh_lit tabOk (by assumption) rfl rfl rfl rfl rfl rfl rfl rfl rfl rfl rfl ?_; intro _ _ _) | refine sh_build tabOk rfl rfl rfl rfl rfl rfl ?_)
  refine s_call rfl rfl rfl rfl ent36 (c_impl_within _ _ _) ?_
  rintro _ _ ⟨rfl, rfl⟩
  repeat' (first | refine s_pure tabOk rfl rfl rfl rfl ?_ | refine Stp.imp ?_ | refine aops_nil ?_ | refine aw_reg ?_ | refine aw_seq ?_ | refine s_pass rfl rfl rfl ?_ | refine s_len tabOk rfl rfl rfl rfl ?_ | refine aw_true rfl ?_ | refine aw_false rfl ?_ | refine blk_exit_other rfl ?_ | refine s_arith tabOk rfl rfl rfl rfl (by simp only [InR]; omega) ?_ | ((first | ((fail_if_success refine s_told rfl rfl ?_); refine s_part rfl rfl rfl ?_ ?_) | refine aw_if rfl ?_ ?_) <;> intro hc <;> (first | replace hc := DecT.imp hc | simp only [decs] at hc | skip)) | refine s_index1n tabOk rfl rfl rfl rfl (by omega) ?_ | refine s_indexn tabOk rfl rfl rfl rfl (by omega) ?_ | refine s_index1 tabOk rfl rfl rfl rfl (by omega) (by omega) ?_ | refine sh_load tabOk (by assumption) rfl rfl rfl rfl (by repeat (first | exact List.Mem.head _ | apply List.Mem.tail)) (by rfl) (by rfl) ?_ | refine sh_loada tabOk (by assumption) rfl rfl rfl rfl (by repeat (first | exact List.Mem.head _ | apply List.Mem.tail)) (by rfl) ?_ | (refine sh_box (by assumption) rfl rfl rfl rfl rfl rfl ?_; intro _ _ _) | (refine sh_alloc tabOk (by assumption) rfl rfl rfl rfl rfl rfl ?_; intro _ _ _) | (refine sh_store tabOk (by assumption) rfl rfl rfl rfl rfl rfl (by repeat (first | exact Upd.here | apply Upd.there)) (by rfl) ?_; intro _ _) | (refine sh_lit tabOk (by assumption) rfl rfl rfl rfl rfl rfl rfl rfl rfl rfl rfl ?_; intro _ _ _) | refine sh_build tabOk rfl rfl rfl rfl rfl rfl ?_)
  refine retK_ret tabOk (congrArg Array.toList Tryz.results40) (rv_tmp rfl rfl rv_nil) ?_
  exact ⟨rfl, rfl⟩
theorem c_spec_l02Sides (x y : Int) : ACalls Tryz.prog B 45 [.int .i64 x, .int .i64 y] W (fun v W' => v = .bool (side1 x && side1 y) ∧ W' = W) := by
  refine acalls_of Tryz.func45 rfl Tryz.ntmps45 (Nat.le_of_ble_eq_true rfl) ?_
  repeat' (first | refine s_pure tabOk rfl rfl rfl rfl ?_ | refine Stp.imp ?_ | refine aops_nil ?_ | refine aw_reg ?_ | refine aw_seq ?_ | refine s_pass rfl rfl rfl ?_ | refine s_len tabOk rfl rfl rfl rfl ?_ | refine aw_true rfl ?_ | refine aw_false rfl ?_ | refine blk_exit_other rfl ?_ | refine s_arith tabOk rfl rfl rfl rfl (by simp only [InR]; omega) ?_ | ((first | ((fail_if_success refine s_told rfl rfl ?_); refine s_part rfl rfl rfl ?_ ?_) | refine aw_if rfl ?_ ?_) <;> intro hc <;> (first | replace hc := DecT.imp hc | simp only [decs] at hc | skip)) | refine s_index1n tabOk rfl rfl rfl rfl (by omega) ?_ | refine s_indexn tabOk rfl rfl rfl rfl (by omega) ?_ | refine s_index1 tabOk rfl rfl rfl rfl (by omega) (by omega) ?_ | refine sh_load tabOk (by assumption) rfl rfl rfl rfl (by repeat (first | exact List.Mem.head _ | apply List.Mem.tail)) (by rfl) (by rfl) ?_ | refine sh_loada tabOk (by assumption) rfl rfl rfl rfl (by repeat (first | exact List.Mem.head _ | apply List.Mem.tail)) (by rfl) ?_ | (refine sh_box (by assumption) rfl rfl rfl rfl rfl rfl ?_; intro _ _ _) | (refine sh_alloc tabOk (by assumption) rfl rfl rfl rfl rfl rfl ?_; intro _ _ _) | (refine sh_store tabOk (by assumption) rfl rfl rfl rfl rfl rfl (by repeat (first | exact Upd.here | apply Upd.there)) (by rfl) ?_; intro _ _) | (refine sh_lit tabOk (by assumption) rfl rfl rfl rfl rfl rfl rfl rfl rfl rfl rfl ?_; intro _ _ _) | refine sh_build tabOk rfl rfl rfl rfl rfl rfl ?_)
  refine s_call rfl rfl rfl rfl ent42 (c_spec_l00In _ _ _) ?_
  rintro _ _ ⟨rfl, rfl⟩
  rw [show (decide (1 ≤ x) && decide (x ≤ 16)) = side1 x from rfl]
  cases h1 : side1 x
  · repeat' (first | refine s_pure tabOk rfl rfl rfl rfl ?_ | refine Stp.imp ?_ | refine aops_nil ?_ | refine aw_reg ?_ | refine aw_seq ?_ | refine s_pass rfl rfl rfl ?_ | refine s_len tabOk rfl rfl rfl rfl ?_ | refine aw_true rfl ?_ | refine aw_false rfl ?_ | refine blk_exit_other rfl ?_ | refine s_arith tabOk rfl rfl rfl rfl (by simp only [InR]; omega) ?_ | ((first | ((fail_if_success refine s_told rfl rfl ?_); refine s_part rfl rfl rfl ?_ ?_) | refine aw_if rfl ?_ ?_) <;> intro hc <;> (first | replace hc := DecT.imp hc | simp only [decs] at hc | skip)) | refine s_index1n tabOk rfl rfl rfl rfl (by omega) ?_ | refine s_indexn tabOk rfl rfl rfl rfl (by omega) ?_ | refine s_index1 tabOk rfl rfl rfl rfl (by omega) (by omega) ?_ | refine sh_load tabOk (by assumption) rfl rfl rfl rfl (by repeat (first | exact List.Mem.head _ | apply List.Mem.tail)) (by rfl) (by rfl) ?_ | refine sh_loada tabOk (by assumption) rfl rfl rfl rfl (by repeat (first | exact List.Mem.head _ | apply List.Mem.tail)) (by rfl) ?_ | (refine sh_box (by assumption) rfl rfl rfl rfl rfl rfl ?_; intro _ _ _) | (refine sh_alloc tabOk (by assumption) rfl rfl rfl rfl rfl rfl ?_; intro _ _ _) | (refine sh_store tabOk (by assumption) rfl rfl rfl rfl rfl rfl (by repeat (first | exact Upd.here | apply Upd.there)) (by rfl) ?_; intro _ _) | (refine sh_lit tabOk (by assumption) rfl rfl rfl rfl rfl rfl rfl rfl rfl rfl rfl ?_; intro _ _ _) | refine sh_build tabOk rfl rfl rfl rfl rfl rfl ?_)
    refine retK_ret tabOk (congrArg Array.toList Tryz.results45) (rv_tmp rfl rfl rv_nil) ?_
    exact ⟨rfl, rfl⟩
  repeat' (first | refine s_pure tabOk rfl rfl rfl rfl ?_ | refine Stp.imp ?_ | refine aops_nil ?_ | refine aw_reg ?_ | refine aw_seq ?_ | refine s_pass rfl rfl rfl ?_ | refine s_len tabOk rfl rfl rfl rfl ?_ | refine aw_true rfl ?_ | refine aw_false rfl ?_ | refine blk_exit_other rfl ?_ | refine s_arith tabOk rfl rfl rfl rfl (by simp only [InR]; omega) ?_ | ((first | ((fail_if_success refine s_told rfl rfl ?_); refine s_part rfl rfl rfl ?_ ?_) | refine aw_if rfl ?_ ?_) <;> intro hc <;> (first | replace hc := DecT.imp hc | simp only [decs] at hc | skip)) | refine s_index1n tabOk rfl rfl rfl rfl (by omega) ?_ | refine s_indexn tabOk rfl rfl rfl rfl (by omega) ?_ | refine s_index1 tabOk rfl rfl rfl rfl (by omega) (by omega) ?_ | refine sh_load tabOk (by assumption) rfl rfl rfl rfl (by repeat (first | exact List.Mem.head _ | apply List.Mem.tail)) (by rfl) (by rfl) ?_ | refine sh_loada tabOk (by assumption) rfl rfl rfl rfl (by repeat (first | exact List.Mem.head _ | apply List.Mem.tail)) (by rfl) ?_ | (refine sh_box (by assumption) rfl rfl rfl rfl rfl rfl ?_; intro _ _ _) | (refine sh_alloc tabOk (by assumption) rfl rfl rfl rfl rfl rfl ?_; intro _ _ _) | (refine sh_store tabOk (by assumption) rfl rfl rfl rfl rfl rfl (by repeat (first | exact Upd.here | apply Upd.there)) (by rfl) ?_; intro _ _) | (refine sh_lit tabOk (by assumption) rfl rfl rfl rfl rfl rfl rfl rfl rfl rfl rfl ?_; intro _ _ _) | refine sh_build tabOk rfl rfl rfl rfl rfl rfl ?_)
  refine s_call rfl rfl rfl rfl ent42 (c_spec_l00In _ _ _) ?_
  rintro _ _ ⟨rfl, rfl⟩
  repeat' (first | refine s_pure tabOk rfl rfl rfl rfl ?_ | refine Stp.imp ?_ | refine aops_nil ?_ | refine aw_reg ?_ | refine aw_seq ?_ | refine s_pass rfl rfl rfl ?_ | refine s_len tabOk rfl rfl rfl rfl ?_ | refine aw_true rfl ?_ | refine aw_false rfl ?_ | refine blk_exit_other rfl ?_ | refine s_arith tabOk rfl rfl rfl rfl (by simp only [InR]; omega) ?_ | ((first | ((fail_if_success refine s_told rfl rfl ?_); refine s_part rfl rfl rfl ?_ ?_) | refine aw_if rfl ?_ ?_) <;> intro hc <;> (first | replace hc := DecT.imp hc | simp only [decs] at hc | skip)) | refine s_index1n tabOk rfl rfl rfl rfl (by omega) ?_ | refine s_indexn tabOk rfl rfl rfl rfl (by omega) ?_ | refine s_index1 tabOk rfl rfl rfl rfl (by omega) (by omega) ?_ | refine sh_load tabOk (by assumption) rfl rfl rfl rfl (by repeat (first | exact List.Mem.head _ | apply List.Mem.tail)) (by rfl) (by rfl) ?_ | refine sh_loada tabOk (by assumption) rfl rfl rfl rfl (by repeat (first | exact List.Mem.head _ | apply List.Mem.tail)) (by rfl) ?_ | (refine sh_box (by assumption) rfl rfl rfl rfl rfl rfl ?_; intro _ _ _) | (refine sh_alloc tabOk (by assumption) rfl rfl rfl rfl rfl rfl ?_; intro _ _ _) | (refine sh_store tabOk (by assumption) rfl rfl rfl rfl rfl rfl (by repeat (first | exact Upd.here | apply Upd.there)) (by rfl) ?_; intro _ _) | (refine sh_lit tabOk (by assumption) rfl rfl rfl rfl rfl rfl rfl rfl rfl rfl rfl ?_; intro _ _ _) | refine sh_build tabOk rfl rfl rfl rfl rfl rfl ?_)
  refine retK_ret tabOk (congrArg Array.toList Tryz.results45) (rv_tmp rfl rfl rv_nil) ?_
  exact ⟨rfl, rfl⟩
theorem c_impl_ValidHill (hB : B ≤ W.heap.size) (hs : SlF W (.slice a d.hs.length c) d.hs) (hl : d.hs.length ≤ 1048576) :
    ACalls Tryz.prog B 26 [hillV d a c] W (fun v W' => v = .bool (vdH d) ∧ Hp B W W' []) := by
  have H0 : Hp B W W [] := Hp.new hB
  refine acalls_of Tryz.func26 rfl Tryz.ntmps26 (Nat.le_of_ble_eq_true rfl) ?_
  repeat' (first | refine s_pure tabOk rfl rfl rfl rfl ?_ | refine Stp.imp ?_ | refine aops_nil ?_ | refine aw_reg ?_ | refine aw_seq ?_ | refine s_pass rfl rfl rfl ?_ | refine s_len tabOk rfl rfl rfl rfl ?_ | refine aw_true rfl ?_ | refine aw_false rfl ?_ | refine blk_exit_other rfl ?_ | refine s_arith tabOk rfl rfl rfl rfl (by simp only [InR]; omega) ?_ | ((first | ((fail_if_success refine s_told rfl rfl ?_); refine s_part rfl rfl rfl ?_ ?_) | refine aw_if rfl ?_ ?_) <;> intro hc <;> (first | replace hc := DecT.imp hc | simp only [decs] at hc | skip)) | refine s_index1n tabOk rfl rfl rfl rfl (by omega) ?_ | refine s_indexn tabOk rfl rfl rfl rfl (by omega) ?_ | refine s_index1 tabOk rfl rfl rfl rfl (by omega) (by omega) ?_ | refine sh_load tabOk (by assumption) rfl rfl rfl rfl (by repeat (first | exact List.Mem.head _ | apply List.Mem.tail)) (by rfl) (by rfl) ?_ | refine sh_loadq tabOk (by assumption) rfl rfl rfl rfl (by repeat (first | exact List.Mem.head _ | apply List.Mem.tail)) (by rfl) ?_ | refine sh_loada tabOk (by assumption) rfl rfl rfl rfl (by repeat (first | exact List.Mem.head _ | apply List.Mem.tail)) (by rfl) ?_ | (refine sh_box (by assumption) rfl rfl rfl rfl rfl rfl ?_; intro _ _ _) | (refine sh_alloc tabOk (by assumption) rfl rfl rfl rfl rfl rfl ?_; intro _ _ _) | (refine sh_store tabOk (by assumption) rfl rfl rfl rfl rfl rfl (by repeat (first | exact Upd.here | apply Upd.there)) (by rfl) ?_; intro _ _) | (refine sh_lit tabOk (by assumption) rfl rfl rfl rfl rfl rfl rfl rfl rfl rfl rfl ?_; intro _ _ _) | refine sh_build tabOk rfl rfl rfl rfl rfl rfl ?_)
  refine s_call rfl rfl rfl rfl ent40 (c_impl_isSide d.w d.h) ?_
  rintro _ _ ⟨rfl, rfl⟩
  cases h1 : (side1 d.w && side1 d.h)
  · repeat' (first | refine s_pure tabOk rfl rfl rfl rfl ?_ | refine Stp.imp ?_ | refine aops_nil ?_ | refine aw_reg ?_ | refine aw_seq ?_ | refine s_pass rfl rfl rfl ?_ | refine s_len tabOk rfl rfl rfl rfl ?_ | refine aw_true rfl ?_ | refine aw_false rfl ?_ | refine blk_exit_other rfl ?_ | refine s_arith tabOk rfl rfl rfl rfl (by simp only [InR]; omega) ?_ | ((first | ((fail_if_success refine s_told rfl rfl ?_); refine s_part rfl rfl rfl ?_ ?_) | refine aw_if rfl ?_ ?_) <;> intro hc <;> (first | replace hc := DecT.imp hc | simp only [decs] at hc | skip)) | refine s_index1n tabOk rfl rfl rfl rfl (by omega) ?_ | refine s_indexn tabOk rfl rfl rfl rfl (by omega) ?_ | refine s_index1 tabOk rfl rfl rfl rfl (by omega) (by omega) ?_ | refine sh_load tabOk (by assumption) rfl rfl rfl rfl (by repeat (first | exact List.Mem.head _ | apply List.Mem.tail)) (by rfl) (by rfl) ?_ | refine sh_loadq tabOk (by assumption) rfl rfl rfl rfl (by repeat (first | exact List.Mem.head _ | apply List.Mem.tail)) (by rfl) ?_ | refine sh_loada tabOk (by assumption) rfl rfl rfl rfl (by repeat (first | exact List.Mem.head _ | apply List.Mem.tail)) (by rfl) ?_ | (refine sh_box (by assumption) rfl rfl rfl rfl rfl rfl ?_; intro _ _ _) | (refine sh_alloc tabOk (by assumption) rfl rfl rfl rfl rfl rfl ?_; intro _ _ _) | (refine sh_store tabOk (by assumption) rfl rfl rfl rfl rfl rfl (by repeat (first | exact Upd.here | apply Upd.there)) (by rfl) ?_; intro _ _) | (refine sh_lit tabOk (by assumption) rfl rfl rfl rfl rfl rfl rfl rfl rfl rfl rfl ?_; intro _ _ _) | refine sh_build tabOk rfl rfl rfl rfl rfl rfl ?_)
    refine retK_ret tabOk (congrArg Array.toList Tryz.results26) (rv_tmp rfl rfl rv_nil) ?_
    exact ⟨by simp only [retV, vdH, h1, Bool.false_and], Hp.sub (by assumption) (by repeat (first | exact List.nil_sublist _ | refine List.Sublist.cons_cons _ ?_ | refine List.Sublist.cons _ ?_))⟩
  have h2 := mul_side (side1_iff.1 (Bool.and_eq_true_iff.1 h1).1) (side1_iff.1 (Bool.and_eq_true_iff.1 h1).2)
  repeat' (first | refine s_pure tabOk rfl rfl rfl rfl ?_ | refine Stp.imp ?_ | refine aops_nil ?_ | refine aw_reg ?_ | refine aw_seq ?_ | refine s_pass rfl rfl rfl ?_ | refine s_len tabOk rfl rfl rfl rfl ?_ | refine aw_true rfl ?_ | refine aw_false rfl ?_ | refine blk_exit_other rfl ?_ | refine s_arith tabOk rfl rfl rfl rfl (by simp only [InR]; omega) ?_ | ((first | ((fail_if_success refine s_told rfl rfl ?_); refine s_part rfl rfl rfl ?_ ?_) | refine aw_if rfl ?_ ?_) <;> intro hc <;> (first | replace hc := DecT.imp hc | simp only [decs] at hc | skip)) | refine s_index1n tabOk rfl rfl rfl rfl (by omega) ?_ | refine s_indexn tabOk rfl rfl rfl rfl (by omega) ?_ | refine s_index1 tabOk rfl rfl rfl rfl (by omega) (by omega) ?_ | refine sh_load tabOk (by assumption) rfl rfl rfl rfl (by repeat (first | exact List.Mem.head _ | apply List.Mem.tail)) (by rfl) (by rfl) ?_ | refine sh_loadq tabOk (by assumption) rfl rfl rfl rfl (by repeat (first | exact List.Mem.head _ | apply List.Mem.tail)) (by rfl) ?_ | refine sh_loada tabOk (by assumption) rfl rfl rfl rfl (by repeat (first | exact List.Mem.head _ | apply List.Mem.tail)) (by rfl) ?_ | (refine sh_box (by assumption) rfl rfl rfl rfl rfl rfl ?_; intro _ _ _) | (refine sh_alloc tabOk (by assumption) rfl rfl rfl rfl rfl rfl ?_; intro _ _ _) | (refine sh_store tabOk (by assumption) rfl rfl rfl rfl rfl rfl (by repeat (first | exact Upd.here | apply Upd.there)) (by rfl) ?_; intro _ _) | (refine sh_lit tabOk (by assumption) rfl rfl rfl rfl rfl rfl rfl rfl rfl rfl rfl ?_; intro _ _ _) | refine sh_build tabOk rfl rfl rfl rfl rfl rfl ?_)
  rotate_left
  · refine retK_ret tabOk (congrArg Array.toList Tryz.results26) (rv_tmp rfl rfl rv_nil) ?_
    exact ⟨by simp only [retV, vdH, h1, decide_eq_false hc, Bool.false_and, Bool.and_false], Hp.sub (by assumption) (by repeat (first | exact List.nil_sublist _ | refine List.Sublist.cons_cons _ ?_ | refine List.Sublist.cons _ ?_))⟩
  refine s_call rfl rfl rfl rfl ent41 (c_impl_areFinite (Hp.slFA (by assumption) hs) hl) ?_
  rintro _ _ ⟨rfl, rfl⟩
  repeat' (first | refine s_pure tabOk rfl rfl rfl rfl ?_ | refine Stp.imp ?_ | refine aops_nil ?_ | refine aw_reg ?_ | refine aw_seq ?_ | refine s_pass rfl rfl rfl ?_ | refine s_len tabOk rfl rfl rfl rfl ?_ | refine aw_true rfl ?_ | refine aw_false rfl ?_ | refine blk_exit_other rfl ?_ | refine s_arith tabOk rfl rfl rfl rfl (by simp only [InR]; omega) ?_ | ((first | ((fail_if_success refine s_told rfl rfl ?_); refine s_part rfl rfl rfl ?_ ?_) | refine aw_if rfl ?_ ?_) <;> intro hc <;> (first | replace hc := DecT.imp hc | simp only [decs] at hc | skip)) | refine s_index1n tabOk rfl rfl rfl rfl (by omega) ?_ | refine s_indexn tabOk rfl rfl rfl rfl (by omega) ?_ | refine s_index1 tabOk rfl rfl rfl rfl (by omega) (by omega) ?_ | refine sh_load tabOk (by assumption) rfl rfl rfl rfl (by repeat (first | exact List.Mem.head _ | apply List.Mem.tail)) (by rfl) (by rfl) ?_ | refine sh_loadq tabOk (by assumption) rfl rfl rfl rfl (by repeat (first | exact List.Mem.head _ | apply List.Mem.tail)) (by rfl) ?_ | refine sh_loada tabOk (by assumption) rfl rfl rfl rfl (by repeat (first | exact List.Mem.head _ | apply List.Mem.tail)) (by rfl) ?_ | (refine sh_box (by assumption) rfl rfl rfl rfl rfl rfl ?_; intro _ _ _) | (refine sh_alloc tabOk (by assumption) rfl rfl rfl rfl rfl rfl ?_; intro _ _ _) | (refine sh_store tabOk (by assumption) rfl rfl rfl rfl rfl rfl (by repeat (first | exact Upd.here | apply Upd.there)) (by rfl) ?_; intro _ _) | (refine sh_lit tabOk (by assumption) rfl rfl rfl rfl rfl rfl rfl rfl rfl rfl rfl ?_; intro _ _ _) | refine sh_build tabOk rfl rfl rfl rfl rfl rfl ?_)
  refine retK_ret tabOk (congrArg Array.toList Tryz.results26) (rv_tmp rfl rfl rv_nil) ?_
  exact ⟨by simp only [retV, vdH, h1, decide_eq_true hc, Bool.true_and], Hp.sub (by assumption) (by repeat (first | exact List.nil_sublist _ | refine List.Sublist.cons_cons _ ?_ | refine List.Sublist.cons _ ?_))⟩
theorem c_spec_l02Is {b off : Nat} (hr : RdV W b off [.int .i64 d.w, .int .i64 d.h, .slice a d.hs.length c]) (hs : SlF W (.slice a d.hs.length c) d.hs) (hl : d.hs.length ≤ 1048576) :
    ACalls Tryz.prog B 31 [.pointer (some ⟨b, off, none⟩)] W (fun v W' => v = .bool (vdH d) ∧ W' = W) := by
  have g0 : ∀ {N : Nat} {E : Env} {o : Oper}, evLd tab E o = some ⟨b, off + 0, none⟩ → Gives Tryz.prog N B o E W (.int .i64 d.w) W := fun hv => gh_rd hv hr (i := 0) rfl (by simp) rfl
  have g1 : ∀ {N : Nat} {E : Env} {o : Oper}, evLd tab E o = some ⟨b, off + 1, none⟩ → Gives Tryz.prog N B o E W (.int .i64 d.h) W := fun hv => gh_rd hv hr (i := 1) rfl (by simp) rfl
  have g2 : ∀ {N : Nat} {E : Env} {o : Oper}, evLd tab E o = some ⟨b, off + 2, none⟩ → Gives Tryz.prog N B o E W (.slice a d.hs.length c) W := fun hv => gh_rd hv hr (i := 2) rfl (by simp) rfl
  refine acalls_of Tryz.func31 rfl Tryz.ntmps31 (Nat.le_of_ble_eq_true rfl) ?_
  repeat' (first | refine s_pure tabOk rfl rfl rfl rfl ?_ | refine Stp.imp ?_ | refine aops_nil ?_ | refine aw_reg ?_ | refine aw_seq ?_ | refine s_pass rfl rfl rfl ?_ | refine s_len tabOk rfl rfl rfl rfl ?_ | refine aw_true rfl ?_ | refine aw_false rfl ?_ | refine blk_exit_other rfl ?_ | refine s_arith tabOk rfl rfl rfl rfl (by simp only [InR]; omega) ?_ | ((first | ((fail_if_success refine s_told rfl rfl ?_); refine s_part rfl rfl rfl ?_ ?_) | refine aw_if rfl ?_ ?_) <;> intro hc <;> (first | replace hc := DecT.imp hc | simp only [decs] at hc | skip)) | refine s_index1n tabOk rfl rfl rfl rfl (by omega) ?_ | refine s_indexn tabOk rfl rfl rfl rfl (by omega) ?_ | refine s_index1 tabOk rfl rfl rfl rfl (by omega) (by omega) ?_ | refine sh_load tabOk (by assumption) rfl rfl rfl rfl (by repeat (first | exact List.Mem.head _ | apply List.Mem.tail)) (by rfl) (by rfl) ?_ | refine sh_loada tabOk (by assumption) rfl rfl rfl rfl (by repeat (first | exact List.Mem.head _ | apply List.Mem.tail)) (by rfl) ?_ | (refine sh_box (by assumption) rfl rfl rfl rfl rfl rfl ?_; intro _ _ _) | (refine sh_alloc tabOk (by assumption) rfl rfl rfl rfl rfl rfl ?_; intro _ _ _) | (refine sh_store tabOk (by assumption) rfl rfl rfl rfl rfl rfl (by repeat (first | exact Upd.here | apply Upd.there)) (by rfl) ?_; intro _ _) | (refine sh_lit tabOk (by assumption) rfl rfl rfl rfl rfl rfl rfl rfl rfl rfl rfl ?_; intro _ _ _) | refine sh_build tabOk rfl rfl rfl rfl rfl rfl ?_)
  refine aw_quiet followsMixed lx (by kernel_rfl) ?_; repeat (first | refine q_pure tabOk rfl rfl rfl rfl ?_ | refine q_len tabOk rfl rfl rfl rfl ?_ | refine q_pass rfl rfl rfl ?_ | refine q_index1n tabOk rfl rfl rfl rfl (by omega) ?_ | refine q_indexn tabOk rfl rfl rfl rfl (by omega) ?_ | refine q_index1 tabOk rfl rfl rfl rfl (by omega) (by omega) ?_ | refine q_arith tabOk rfl rfl rfl rfl (by simp only [InR]; omega) ?_)
  refine q_gives rfl rfl rfl (g0 rfl) ?_
  repeat (first | refine q_pure tabOk rfl rfl rfl rfl ?_ | refine q_len tabOk rfl rfl rfl rfl ?_ | refine q_pass rfl rfl rfl ?_ | refine q_index1n tabOk rfl rfl rfl rfl (by omega) ?_ | refine q_indexn tabOk rfl rfl rfl rfl (by omega) ?_ | refine q_index1 tabOk rfl rfl rfl rfl (by omega) (by omega) ?_ | refine q_arith tabOk rfl rfl rfl rfl (by simp only [InR]; omega) ?_)
  refine q_gives rfl rfl rfl (g1 rfl) ?_
  refine q_call rfl rfl rfl rfl ent45 (c_spec_l02Sides d.w d.h) ?_
  cases h1 : (side1 d.w && side1 d.h)
  · repeat (first | refine q_pure tabOk rfl rfl rfl rfl ?_ | refine q_len tabOk rfl rfl rfl rfl ?_ | refine q_pass rfl rfl rfl ?_ | refine q_index1n tabOk rfl rfl rfl rfl (by omega) ?_ | refine q_indexn tabOk rfl rfl rfl rfl (by omega) ?_ | refine q_index1 tabOk rfl rfl rfl rfl (by omega) (by omega) ?_ | refine q_arith tabOk rfl rfl rfl rfl (by simp only [InR]; omega) ?_)
    refine aq_nil ?_
    repeat' (first | refine s_pure tabOk rfl rfl rfl rfl ?_ | refine Stp.imp ?_ | refine aops_nil ?_ | refine aw_reg ?_ | refine aw_seq ?_ | refine s_pass rfl rfl rfl ?_ | refine s_len tabOk rfl rfl rfl rfl ?_ | refine aw_true rfl ?_ | refine aw_false rfl ?_ | refine blk_exit_other rfl ?_ | refine s_arith tabOk rfl rfl rfl rfl (by simp only [InR]; omega) ?_ | ((first | ((fail_if_success refine s_told rfl rfl ?_); refine s_part rfl rfl rfl ?_ ?_) | refine aw_if rfl ?_ ?_) <;> intro hc <;> (first | replace hc := DecT.imp hc | simp only [decs] at hc | skip)) | refine s_index1n tabOk rfl rfl rfl rfl (by omega) ?_ | refine s_indexn tabOk rfl rfl rfl rfl (by omega) ?_ | refine s_index1 tabOk rfl rfl rfl rfl (by omega) (by omega) ?_ | refine sh_load tabOk (by assumption) rfl rfl rfl rfl (by repeat (first | exact List.Mem.head _ | apply List.Mem.tail)) (by rfl) (by rfl) ?_ | refine sh_loada tabOk (by assumption) rfl rfl rfl rfl (by repeat (first | exact List.Mem.head _ | apply List.Mem.tail)) (by rfl) ?_ | (refine sh_box (by assumption) rfl rfl rfl rfl rfl rfl ?_; intro _ _ _) | (refine sh_alloc tabOk (by assumption) rfl rfl rfl rfl rfl rfl ?_; intro _ _ _) | (refine sh_store tabOk (by assumption) rfl rfl rfl rfl rfl rfl (by repeat (first | exact Upd.here | apply Upd.there)) (by rfl) ?_; intro _ _) | (refine sh_lit tabOk (by assumption) rfl rfl rfl rfl rfl rfl rfl rfl rfl rfl rfl ?_; intro _ _ _) | refine sh_build tabOk rfl rfl rfl rfl rfl rfl ?_)
    refine retK_ret tabOk (congrArg Array.toList Tryz.results31) (rv_tmp rfl rfl rv_nil) ?_
    exact ⟨by simp only [retV, vdH, h1, Bool.false_and], rfl⟩
  have h2 := mul_side (side1_iff.1 (Bool.and_eq_true_iff.1 h1).1) (side1_iff.1 (Bool.and_eq_true_iff.1 h1).2)
  repeat (first | refine q_pure tabOk rfl rfl rfl rfl ?_ | refine q_len tabOk rfl rfl rfl rfl ?_ | refine q_pass rfl rfl rfl ?_ | refine q_index1n tabOk rfl rfl rfl rfl (by omega) ?_ | refine q_indexn tabOk rfl rfl rfl rfl (by omega) ?_ | refine q_index1 tabOk rfl rfl rfl rfl (by omega) (by omega) ?_ | refine q_arith tabOk rfl rfl rfl rfl (by simp only [InR]; omega) ?_)
  refine q_gives rfl rfl rfl (g2 rfl) ?_
  repeat (first | refine q_pure tabOk rfl rfl rfl rfl ?_ | refine q_len tabOk rfl rfl rfl rfl ?_ | refine q_pass rfl rfl rfl ?_ | refine q_index1n tabOk rfl rfl rfl rfl (by omega) ?_ | refine q_indexn tabOk rfl rfl rfl rfl (by omega) ?_ | refine q_index1 tabOk rfl rfl rfl rfl (by omega) (by omega) ?_ | refine q_arith tabOk rfl rfl rfl rfl (by simp only [InR]; omega) ?_)
  refine q_gives rfl rfl rfl (g0 rfl) ?_
  repeat (first | refine q_pure tabOk rfl rfl rfl rfl ?_ | refine q_len tabOk rfl rfl rfl rfl ?_ | refine q_pass rfl rfl rfl ?_ | refine q_index1n tabOk rfl rfl rfl rfl (by omega) ?_ | refine q_indexn tabOk rfl rfl rfl rfl (by omega) ?_ | refine q_index1 tabOk rfl rfl rfl rfl (by omega) (by omega) ?_ | refine q_arith tabOk rfl rfl rfl rfl (by simp only [InR]; omega) ?_)
  refine q_gives rfl rfl rfl (g1 rfl) ?_
  repeat (first | refine q_pure tabOk rfl rfl rfl rfl ?_ | refine q_len tabOk rfl rfl rfl rfl ?_ | refine q_pass rfl rfl rfl ?_ | refine q_index1n tabOk rfl rfl rfl rfl (by omega) ?_ | refine q_indexn tabOk rfl rfl rfl rfl (by omega) ?_ | refine q_index1 tabOk rfl rfl rfl rfl (by omega) (by omega) ?_ | refine q_arith tabOk rfl rfl rfl rfl (by simp only [InR]; omega) ?_)
  cases h3 : ((d.hs.length : Int) == d.w * d.h)
  · have h3' : ¬ (d.hs.length : Int) = d.w * d.h := by simpa using h3
    repeat (first | refine q_pure tabOk rfl rfl rfl rfl ?_ | refine q_len tabOk rfl rfl rfl rfl ?_ | refine q_pass rfl rfl rfl ?_ | refine q_index1n tabOk rfl rfl rfl rfl (by omega) ?_ | refine q_indexn tabOk rfl rfl rfl rfl (by omega) ?_ | refine q_index1 tabOk rfl rfl rfl rfl (by omega) (by omega) ?_ | refine q_arith tabOk rfl rfl rfl rfl (by simp only [InR]; omega) ?_)
    refine aq_nil ?_
    repeat' (first | refine s_pure tabOk rfl rfl rfl rfl ?_ | refine Stp.imp ?_ | refine aops_nil ?_ | refine aw_reg ?_ | refine aw_seq ?_ | refine s_pass rfl rfl rfl ?_ | refine s_len tabOk rfl rfl rfl rfl ?_ | refine aw_true rfl ?_ | refine aw_false rfl ?_ | refine blk_exit_other rfl ?_ | refine s_arith tabOk rfl rfl rfl rfl (by simp only [InR]; omega) ?_ | ((first | ((fail_if_success refine s_told rfl rfl ?_); refine s_part rfl rfl rfl ?_ ?_) | refine aw_if rfl ?_ ?_) <;> intro hc <;> (first | replace hc := DecT.imp hc | simp only [decs] at hc | skip)) | refine s_index1n tabOk rfl rfl rfl rfl (by omega) ?_ | refine s_indexn tabOk rfl rfl rfl rfl (by omega) ?_ | refine s_index1 tabOk rfl rfl rfl rfl (by omega) (by omega) ?_ | refine sh_load tabOk (by assumption) rfl rfl rfl rfl (by repeat (first | exact List.Mem.head _ | apply List.Mem.tail)) (by rfl) (by rfl) ?_ | refine sh_loada tabOk (by assumption) rfl rfl rfl rfl (by repeat (first | exact List.Mem.head _ | apply List.Mem.tail)) (by rfl) ?_ | (refine sh_box (by assumption) rfl rfl rfl rfl rfl rfl ?_; intro _ _ _) | (refine sh_alloc tabOk (by assumption) rfl rfl rfl rfl rfl rfl ?_; intro _ _ _) | (refine sh_store tabOk (by assumption) rfl rfl rfl rfl rfl rfl (by repeat (first | exact Upd.here | apply Upd.there)) (by rfl) ?_; intro _ _) | (refine sh_lit tabOk (by assumption) rfl rfl rfl rfl rfl rfl rfl rfl rfl rfl rfl ?_; intro _ _ _) | refine sh_build tabOk rfl rfl rfl rfl rfl rfl ?_)
    refine retK_ret tabOk (congrArg Array.toList Tryz.results31) (rv_tmp rfl rfl rv_nil) ?_
    exact ⟨by simp only [retV, vdH, h1, decide_eq_false h3', Bool.false_and, Bool.and_false], rfl⟩
  have h3' : (d.hs.length : Int) = d.w * d.h := by simpa using h3
  repeat (first | refine q_pure tabOk rfl rfl rfl rfl ?_ | refine q_len tabOk rfl rfl rfl rfl ?_ | refine q_pass rfl rfl rfl ?_ | refine q_index1n tabOk rfl rfl rfl rfl (by omega) ?_ | refine q_indexn tabOk rfl rfl rfl rfl (by omega) ?_ | refine q_index1 tabOk rfl rfl rfl rfl (by omega) (by omega) ?_ | refine q_arith tabOk rfl rfl rfl rfl (by simp only [InR]; omega) ?_)
  refine q_gives rfl rfl rfl (g2 rfl) ?_
  refine q_call rfl rfl rfl rfl ent46 (c_spec_l02Finite hs hl) ?_
  repeat (first | refine q_pure tabOk rfl rfl rfl rfl ?_ | refine q_len tabOk rfl rfl rfl rfl ?_ | refine q_pass rfl rfl rfl ?_ | refine q_index1n tabOk rfl rfl rfl rfl (by omega) ?_ | refine q_indexn tabOk rfl rfl rfl rfl (by omega) ?_ | refine q_index1 tabOk rfl rfl rfl rfl (by omega) (by omega) ?_ | refine q_arith tabOk rfl rfl rfl rfl (by simp only [InR]; omega) ?_)
  refine aq_nil ?_
  repeat' (first | refine s_pure tabOk rfl rfl rfl rfl ?_ | refine Stp.imp ?_ | refine aops_nil ?_ | refine aw_reg ?_ | refine aw_seq ?_ | refine s_pass rfl rfl rfl ?_ | refine s_len tabOk rfl rfl rfl rfl ?_ | refine aw_true rfl ?_ | refine aw_false rfl ?_ | refine blk_exit_other rfl ?_ | refine s_arith tabOk rfl rfl rfl rfl (by simp only [InR]; omega) ?_ | ((first | ((fail_if_success refine s_told rfl rfl ?_); refine s_part rfl rfl rfl ?_ ?_) | refine aw_if rfl ?_ ?_) <;> intro hc <;> (first | replace hc := DecT.imp hc | simp only [decs] at hc | skip)) | refine s_index1n tabOk rfl rfl rfl rfl (by omega) ?_ | refine s_indexn tabOk rfl rfl rfl rfl (by omega) ?_ | refine s_index1 tabOk rfl rfl rfl rfl (by omega) (by omega) ?_ | refine sh_load tabOk (by assumption) rfl rfl rfl rfl (by repeat (first | exact List.Mem.head _ | apply List.Mem.tail)) (by rfl) (by rfl) ?_ | refine sh_loada tabOk (by assumption) rfl rfl rfl rfl (by repeat (first | exact List.Mem.head _ | apply List.Mem.tail)) (by rfl) ?_ | (refine sh_box (by assumption) rfl rfl rfl rfl rfl rfl ?_; intro _ _ _) | (refine sh_alloc tabOk (by assumption) rfl rfl rfl rfl rfl rfl ?_; intro _ _ _) | (refine sh_store tabOk (by assumption) rfl rfl rfl rfl rfl rfl (by repeat (first | exact Upd.here | apply Upd.there)) (by rfl) ?_; intro _ _) | (refine sh_lit tabOk (by assumption) rfl rfl rfl rfl rfl rfl rfl rfl rfl rfl rfl ?_; intro _ _ _) | refine sh_build tabOk rfl rfl rfl rfl rfl rfl ?_)
  refine retK_ret tabOk (congrArg Array.toList Tryz.results31) (rv_tmp rfl rfl rv_nil) ?_
  exact ⟨by simp only [retV, vdH, h1, decide_eq_true h3', Bool.true_and], rfl⟩
end
end Go.Proofs.YthdnepjajhjmlaaGreatDoor
