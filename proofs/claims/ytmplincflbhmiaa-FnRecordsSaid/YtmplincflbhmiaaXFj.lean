/- Records in laws: read, copied, compared, over a heap told by its parts. -/
import Derived.Test.YtmplincflbhmiaaXFb
import Derived.Test.YtmplincflbhmiaaCn13
import Derived.Test.YtmplincflbhmiaaHc
namespace Go.Proofs.Ytmplincflbhmiaa
set_option linter.unusedSimpArgs false
set_option linter.unusedVariables false
open Go Cn Go.RowKit
theorem OwnF.row {W : World} {base : Nat} {v : Value} {xs : List Nat} (h : OwnF W base v xs) (hp : 0 < xs.length) : ∃ g cap cur, v = .slice (some ⟨g, 0, none⟩) xs.length cap ∧ base ≤ g ∧ W.heap[g]? = some (.cells cur 32 (0, 0)) ∧ xs.length ≤ cur.size := by
  rcases h.1.2 with ⟨-, h0⟩ | ⟨g, cap, cur, h1, h2, h3, h4, h5, h6, h7⟩
  · omega
  · exact ⟨g, cap, cur, h1, h2, h3, by omega⟩
theorem OwnF.set {W : World} {base g cap : Nat} {cur : Array Value} {xs : List Nat} {i y : Nat} (h : OwnF W base (.slice (some ⟨g, 0, none⟩) xs.length cap) xs) (hg : W.heap[g]? = some (.cells cur 32 (0, 0))) (hi : i < xs.length) (hy : cb .f32 y = y) :
    OwnF (W.setRow g (splice cur i [.float .f32 y])) base (.slice (some ⟨g, 0, none⟩) xs.length cap) (xs.set i y) := by
  obtain ⟨⟨h1, h2⟩, h3⟩ := h
  rcases h2 with ⟨e, -⟩ | ⟨g', cap', cur', e, a1, a2, a3, a4, a5, a6⟩
  · cases e
  · cases e
    rw [hg] at a2
    cases a2
    refine ⟨⟨by simp, .inr ⟨g, cap, splice cur i [.float .f32 y], by simp, a1, setRow_heap _ _ _ _ _ _ hg, by simpa using a3, a4, ?_, ?_⟩⟩, ?_⟩
    · have hs : (splice cur i [.float .f32 y]).size = cur.size := by
        unfold splice
        simp only [List.size_toArray, List.length_append, List.length_take, List.length_drop, Array.length_toList, List.length_singleton]
        omega
      rw [hs]; exact a5
    · apply List.ext_getElem?
      intro j
      by_cases hj : j < xs.length
      · rw [List.getElem?_take, if_pos (by simpa using hj), Array.getElem?_toList, splice_one (by omega)]
        have hcur : cur[j]? = some (.float .f32 (xs.getD j 0)) := by
          have : (cur.toList.take (xs.length * 1))[j]? = some (.float .f32 (xs.getD j 0)) := by
            rw [a6]; simp [List.getD_eq_getElem?_getD, hj]
          rw [List.getElem?_take, if_pos (by omega)] at this
          simpa using this
        by_cases e : j = i
        · subst e; rw [if_pos rfl]; simp [hi]
        · rw [if_neg e, hcur]; simp [show ¬ i = j from fun h => e h.symm, hj, List.getD_eq_getElem?_getD]
      · rw [List.getElem?_take, if_neg (by simpa using hj), List.getElem?_eq_none (by simpa using hj)]
    · intro j hj
      have hj' : j < xs.length := by simpa using hj
      by_cases e : i = j
      · subst e; simpa [List.getD_eq_getElem?_getD, List.getElem?_set, hj'] using hy
      · have := h3 j hj'
        simpa [List.getD_eq_getElem?_getD, List.getElem?_set, e, hj'] using this
theorem OwnF.lt {W : World} {base : Nat} {v : Value} {xs : List Nat} (h : OwnF W base v xs) : ∀ k, v.ownBlock = some k → base ≤ k ∧ k < W.heap.size := by
  rcases h.1.2 with ⟨rfl, -⟩ | ⟨g, cap, cur, rfl, hg, hh, -⟩
  · intro k hk; cases hk
  · intro k hk; cases hk
    refine ⟨hg, ?_⟩
    rcases Nat.lt_or_ge g W.heap.size with h | h
    · exact h
    · rw [Array.getElem?_eq_none h] at hh; cases hh
theorem OwnF.keep {W W' : World} {base : Nat} {v : Value} {xs : List Nat} (h : OwnF W base v xs) (hk : ∀ k, v.ownBlock = some k → W'.heap[k]? = W.heap[k]?) : OwnF W' base v xs := by
  obtain ⟨⟨h1, h2⟩, h3⟩ := h
  refine ⟨⟨h1, ?_⟩, h3⟩
  rcases h2 with h2 | ⟨g, cap, cur, hv, hg, hh, r⟩
  · exact .inl h2
  · refine .inr ⟨g, cap, cur, hv, hg, ?_, r⟩
    rw [hk g (by rw [hv]; rfl)]; exact hh
theorem OwnF.len {W : World} {base n c : Nat} {a : Option Addr} {xs : List Nat} (h : OwnF W base (.slice a n c) xs) : n = xs.length := by
  rcases h.1.2 with ⟨e, h0⟩ | ⟨g, cap, cur, e, -⟩
  · cases e; exact h0.symm
  · cases e; rfl
theorem OwnF.below {W W' : World} {base : Nat} {v : Value} {xs : List Nat} (h : OwnF W base v xs) (hb : Below W.heap.size W W') : OwnF W' base v xs := ⟨owns_below hb h.1, h.2⟩
section
variable {B : Nat} {W : World}
end
end Go.Proofs.Ytmplincflbhmiaa
namespace Go.Proofs.Ytmplincflbhmiaa
set_option linter.unusedSimpArgs false
set_option linter.unusedVariables false
open Go Cn Go.RowKit
theorem OwnF.same {W W' : World} {base b : Nat} {v : Value} {xs : List Nat} (h : OwnF W base v xs) (s : Same b W W') (hne : ∀ k, v.ownBlock = some k → k ≠ b) : OwnF W' base v xs := h.keep fun k hk => s.heap k (hne k hk)
theorem OwnF.weak {W : World} {base base' : Nat} {v : Value} {xs : List Nat} (h : OwnF W base v xs) (hb : base' ≤ base) : OwnF W base' v xs := by
  obtain ⟨⟨h1, h2⟩, h3⟩ := h
  refine ⟨⟨h1, ?_⟩, h3⟩
  rcases h2 with h2 | ⟨g, cap, cur, hv, hg, r⟩
  · exact .inl h2
  · exact .inr ⟨g, cap, cur, hv, by omega, r⟩
theorem OwnF.cap {W : World} {base n c : Nat} {a : Option Addr} {xs : List Nat} (h : OwnF W base (.slice a n c) xs) : n ≤ c := by
  rcases h.1.2 with ⟨e, -⟩ | ⟨g, cap, cur, e, -, -, h4, -⟩
  · cases e; exact Nat.le_refl _
  · cases e; exact h4
/-- a record whose list the call owns -/
def RecO (W : World) (base : Nat) (v : Value) (s : ByteArray) (st sp : Int) (xs : List Nat) : Prop := ∃ a c, v = .agg #[.string s, .int .i64 st, .int .i64 sp, .slice a xs.length c] ∧ OwnF W base (.slice a xs.length c) xs
theorem RecO.rec {W : World} {base : Nat} {v : Value} {s : ByteArray} {st sp : Int} {xs : List Nat} (h : RecO W base v s st sp xs) : RecA W v s st sp xs := by
  obtain ⟨a, c, h1, h2⟩ := h
  exact ⟨a, c, h1, h2.sl⟩
theorem RecO.below {W W' : World} {base : Nat} {v : Value} {s : ByteArray} {st sp : Int} {xs : List Nat} (h : RecO W base v s st sp xs) (hb : Below W.heap.size W W') : RecO W' base v s st sp xs := by
  obtain ⟨a, c, h1, h2⟩ := h
  exact ⟨a, c, h1, h2.below hb⟩
section
variable {B : Nat} {W : World}
end
/-! ### a list cut, and appended -/
theorem SlF.cut {W : World} {a : Option Addr} {n c l h : Nat} {xs : List Nat} (hv : SlF W (.slice a n c) xs) (h1 : l ≤ h) (h2 : h ≤ xs.length) (hc : n ≤ c) : ∃ a' c', sliced a l h c 1 = .slice a' (h - l) c' ∧ SlF W (.slice a' (h - l) c') ((xs.drop l).take (h - l)) ∧ h - l ≤ c' := by
  have hlen : ((xs.drop l).take (h - l)).length = h - l := by simp; omega
  rcases hv with ⟨e, rfl⟩ | ⟨b, off, c', e, hr⟩
  · cases e
    simp at h2
    subst h2
    have : l = 0 := by omega
    subst this
    exact ⟨none, 0, rfl, .inl ⟨rfl, by simp⟩, by omega⟩
  · cases e
    by_cases hcl : c = l
    · refine ⟨some ⟨b, off, none⟩, c - l, by simp [sliced, hcl], .inr ⟨b, off, c - l, by rw [hlen], fun i hi => ?_⟩, by omega⟩
      rw [hlen] at hi; omega
    · refine ⟨some ⟨b, off + l, none⟩, c - l, ?_, .inr ⟨b, off + l, c - l, by rw [hlen], fun i hi => ?_⟩, by omega⟩
      · simp only [sliced, if_neg hcl, Option.map_some, Nat.mul_one]
        congr 2
        unfold Addr.add
        split
        · simp_all
        · rfl
      · rw [hlen] at hi
        obtain ⟨y, h3, h4⟩ := hr (l + i) (by omega)
        refine ⟨y, by rw [Nat.add_assoc]; exact h3, ?_⟩
        rw [h4]
        simp [List.getD_eq_getElem?_getD, hi]
section app
variable {P : Program} {N B : Nat} {E : Env} {W : World} {ops : Array Oper} {K : Exit → Env → World → Prop} {D : World → Prop} {T : Tab} {i : Nat} {rest : List Nat} {d : Nat} {op : Op} {ty : TypeId} {pos : String} {aft : Array Edge} {g : Option (Nat × Bool)}
theorem yields_appendF (hT : TabOk P T) {o : Oper} {base b off c : Nat} {v : Value} {xs ys : List Nat} {z : Value} (hv : evAp T E o = some (32, v, .slice (some ⟨b, off, none⟩) ys.length c)) (ht : T.at 32 = some ⟨.float .f32, 1, 4, z⟩) (hz : z.cells.size = 1)
    (hu : OwnF W base v xs) (hB : B ≤ base) (hb : base ≤ W.heap.size) (hy : RdF W b off ys) (hl : xs.length ≤ 1048577) (hl' : ys.length ≤ 1048577) :
    Go.Proofs.Ytmplincflbhmiaa.Cn.Yields P N B o E W (fun v' W' => OwnF W' base v' (xs ++ ys) ∧ Below base W W') := by
  intro a w ha hw hB'
  obtain ⟨f, hf⟩ := Deep.choose_lt (α := Nat) hy
  have hcells : Cells W b off ((List.range ys.length).map fun i => Value.float .f32 (f i)) := by
    intro j u hj
    have hjl : j < ys.length := by
      have := (List.getElem?_eq_some_iff.1 hj).1
      simpa using this
    simp [hjl] at hj
    subst hj
    exact (hf j hjl).1
  have hmap : ((List.range ys.length).map fun i => Value.float .f32 (f i)).map cl = ys.map (Value.float .f32) := by
    apply List.ext_getElem?
    intro j
    by_cases hj : j < ys.length
    · have := (hf j hj).2
      simp [hj, cl, this, List.getD_eq_getElem?_getD]
    · simp [hj]
  have hcan : CanF ys := by
    intro j hj
    have := (hf j hj).2
    rw [← this, cb_cb]
  obtain ⟨r, w', h2, h3, h4⟩ := yields_append (P := P) (N := N) (B := B) (E := E) (W := W) hT hv ht hu.1 hB hb hcells (by simp) (by simp [Value.oneCell']) hz Nat.one_pos (by show xs.length + ys.length ≤ 9223372036854775807; omega) (by show (xs.length + ys.length) * 4 ≤ 140737488355328; omega) a w ha hw hB'
  refine ⟨r, w', h2, h3, ⟨?_, ?_⟩, ((Below.refl base W).grown h4.2.1 hb (own_lt hu.1))⟩
  · have := h4.1
    rw [hmap, ← List.map_append] at this
    simpa using this
  · intro j hj
    by_cases h1 : j < xs.length
    · have := hu.2 j h1
      simpa [List.getD_eq_getElem?_getD, List.getElem?_append_left h1, h1] using this
    · have h5 : j - xs.length < ys.length := by simp at hj; omega
      have := hcan (j - xs.length) h5
      simpa [List.getD_eq_getElem?_getD, List.getElem?_append_right (Nat.le_of_not_lt h1)] using this
theorem s_appendF (hT : TabOk P T) {base b off c : Nat} {v : Value} {xs ys : List Nat} {z : Value} (ho : getL ops.toList i = some ⟨some d, op, ty, pos, aft, g⟩) (hg : guardE ops ⟨some d, op, ty, pos, aft, g⟩ E = some true) (hd : Nat.ble (d + 1) N = true)
    (hv : evAp T E ⟨some d, op, ty, pos, aft, g⟩ = some (32, v, .slice (some ⟨b, off, none⟩) ys.length c)) (ht : T.at 32 = some ⟨.float .f32, 1, 4, z⟩) (hz : z.cells.size = 1)
    (hu : OwnF W base v xs) (hB : B ≤ base) (hb : base ≤ W.heap.size) (hy : RdF W b off ys) (hl : xs.length ≤ 1048577) (hl' : ys.length ≤ 1048577)
    (k : ∀ v' W', OwnF W' base v' (xs ++ ys) → Below base W W' → AOps P N B ops rest K ((d, v') :: E) W') : AOps P N B ops (i :: rest) K E W :=
  aops_yields (getL_ok ho) hg hd (yields_appendF hT hv ht hz hu hB hb hy hl hl') (fun v' W' hR => k v' W' hR.1 hR.2)
end app
section
variable {B : Nat} {W : World}
theorem c_Clone {v : Value} {xs : List Nat} (hv : SlF W v xs) (hl : xs.length ≤ 1048576) (hp : 0 < xs.length) (hB : B ≤ W.heap.size) :
    ACalls Try.prog B 70 [v] W (fun r W' => (∃ a c, r = .slice a xs.length c) ∧ OwnF W' W.heap.size r xs ∧ Below W.heap.size W W') := by
  obtain ⟨a, c, rfl⟩ := hv.form
  obtain ⟨b, off, rfl, hr⟩ := hv.read hp
  refine acalls_of Try.func70 rfl Try.ntmps70 (Nat.le_of_ble_eq_true rfl) ?_
  repeat' (first
      | refine s_pure tabOk rfl rfl rfl rfl ?_
      | refine aops_nil ?_
      | refine thn_normal ?_
      | refine aw_seq ?_
      | refine aw_reg ?_
      | refine s_pass rfl rfl rfl ?_
      | refine s_len tabOk rfl rfl rfl rfl ?_
      | refine aw_true rfl ?_
      | refine aw_false rfl ?_
      | refine aw_block ?_
      | refine aw_skip ?_
      | refine aw_exit ?_
      | refine blk_exit ?_
      | refine blk_exit_other rfl ?_
      | refine blk_normal ?_
      | refine thn_exit ?_
      | refine thn_ret ?_
      | refine blk_ret ?_
      | refine rnd_ret ?_
      | refine rnd_exit ?_
      | refine aw_ret ?_
      | refine s_arith tabOk rfl rfl rfl rfl (by simp only [InR]; omega) ?_
      | ((fail_if_success refine s_told rfl rfl ?_); refine s_part rfl rfl rfl ?_ ?_ <;> intro hc <;> (first | replace hc := of_decide_eq_true hc | replace hc := of_decide_eq_false hc | replace hc := eq_of_beq hc | skip))
      | (refine aw_if rfl ?_ ?_ <;> intro hc <;> (first | replace hc := of_decide_eq_true hc | replace hc := of_decide_eq_false hc | replace hc := eq_of_beq hc | skip))
      | refine s_index1 tabOk rfl rfl rfl rfl (by omega) (by omega) ?_)
  refine s_nilSlice tabOk rfl rfl rfl rfl ?_
  repeat' (first
      | refine s_pure tabOk rfl rfl rfl rfl ?_
      | refine aops_nil ?_
      | refine thn_normal ?_
      | refine aw_seq ?_
      | refine aw_reg ?_
      | refine s_pass rfl rfl rfl ?_
      | refine s_len tabOk rfl rfl rfl rfl ?_
      | refine aw_true rfl ?_
      | refine aw_false rfl ?_
      | refine aw_block ?_
      | refine aw_skip ?_
      | refine aw_exit ?_
      | refine blk_exit ?_
      | refine blk_exit_other rfl ?_
      | refine blk_normal ?_
      | refine thn_exit ?_
      | refine thn_ret ?_
      | refine blk_ret ?_
      | refine rnd_ret ?_
      | refine rnd_exit ?_
      | refine aw_ret ?_
      | refine s_arith tabOk rfl rfl rfl rfl (by simp only [InR]; omega) ?_
      | ((fail_if_success refine s_told rfl rfl ?_); refine s_part rfl rfl rfl ?_ ?_ <;> intro hc <;> (first | replace hc := of_decide_eq_true hc | replace hc := of_decide_eq_false hc | replace hc := eq_of_beq hc | skip))
      | (refine aw_if rfl ?_ ?_ <;> intro hc <;> (first | replace hc := of_decide_eq_true hc | replace hc := of_decide_eq_false hc | replace hc := eq_of_beq hc | skip))
      | refine s_index1 tabOk rfl rfl rfl rfl (by omega) (by omega) ?_)
  refine s_buildSlice tabOk rfl rfl rfl rfl rfl (by simp) (by decide) (by decide) (by decide) ?_
  repeat' (first
      | refine s_pure tabOk rfl rfl rfl rfl ?_
      | refine aops_nil ?_
      | refine thn_normal ?_
      | refine aw_seq ?_
      | refine aw_reg ?_
      | refine s_pass rfl rfl rfl ?_
      | refine s_len tabOk rfl rfl rfl rfl ?_
      | refine aw_true rfl ?_
      | refine aw_false rfl ?_
      | refine aw_block ?_
      | refine aw_skip ?_
      | refine aw_exit ?_
      | refine blk_exit ?_
      | refine blk_exit_other rfl ?_
      | refine blk_normal ?_
      | refine thn_exit ?_
      | refine thn_ret ?_
      | refine blk_ret ?_
      | refine rnd_ret ?_
      | refine rnd_exit ?_
      | refine aw_ret ?_
      | refine s_arith tabOk rfl rfl rfl rfl (by simp only [InR]; omega) ?_
      | ((fail_if_success refine s_told rfl rfl ?_); refine s_part rfl rfl rfl ?_ ?_ <;> intro hc <;> (first | replace hc := of_decide_eq_true hc | replace hc := of_decide_eq_false hc | replace hc := eq_of_beq hc | skip))
      | (refine aw_if rfl ?_ ?_ <;> intro hc <;> (first | replace hc := of_decide_eq_true hc | replace hc := of_decide_eq_false hc | replace hc := eq_of_beq hc | skip))
      | refine s_index1 tabOk rfl rfl rfl rfl (by omega) (by omega) ?_)
  refine s_appendF tabOk rfl rfl rfl rfl rfl rfl (OwnF.new (Nat.le_refl _)) hB (by simp) (hr.mono fun _ _ h => cell_alloc _ h) (by simp) (by omega) ?_
  intro u W1 ho hb
  simp only [List.nil_append] at ho
  obtain ⟨ua, uc, rfl⟩ := ho.sl.form
  repeat' (first
      | refine s_pure tabOk rfl rfl rfl rfl ?_
      | refine aops_nil ?_
      | refine thn_normal ?_
      | refine aw_seq ?_
      | refine aw_reg ?_
      | refine s_pass rfl rfl rfl ?_
      | refine s_len tabOk rfl rfl rfl rfl ?_
      | refine aw_true rfl ?_
      | refine aw_false rfl ?_
      | refine aw_block ?_
      | refine aw_skip ?_
      | refine aw_exit ?_
      | refine blk_exit ?_
      | refine blk_exit_other rfl ?_
      | refine blk_normal ?_
      | refine thn_exit ?_
      | refine thn_ret ?_
      | refine blk_ret ?_
      | refine rnd_ret ?_
      | refine rnd_exit ?_
      | refine aw_ret ?_
      | refine s_arith tabOk rfl rfl rfl rfl (by simp only [InR]; omega) ?_
      | ((fail_if_success refine s_told rfl rfl ?_); refine s_part rfl rfl rfl ?_ ?_ <;> intro hc <;> (first | replace hc := of_decide_eq_true hc | replace hc := of_decide_eq_false hc | replace hc := eq_of_beq hc | skip))
      | (refine aw_if rfl ?_ ?_ <;> intro hc <;> (first | replace hc := of_decide_eq_true hc | replace hc := of_decide_eq_false hc | replace hc := eq_of_beq hc | skip))
      | refine s_index1 tabOk rfl rfl rfl rfl (by omega) (by omega) ?_)
  exact retK_ret tabOk (congrArg Array.toList Try.results70) (rv_tmp rfl rfl rv_nil) ⟨⟨_, _, rfl⟩, ho, ((Below.refl _ _).alloc (Nat.le_refl _) _).trans hb⟩
end
end Go.Proofs.Ytmplincflbhmiaa
namespace Go.Proofs.Ytmplincflbhmiaa
set_option linter.unusedSimpArgs false
set_option linter.unusedVariables false
open Go Cn Go.RowKit
abbrev fRow (v : Value) (xs : List Nat) : Res := .row 32 1 v xs.length (xs.map (.float .f32))
section
variable {B : Nat} {A W W' : World} {l l' : List Res}
theorem one_floats (xs : List Nat) : (xs.map (Value.float .f32)).all (·.oneCell') = true := by simp [Value.oneCell']
theorem can_floats {xs : List Nat} (h : CanF xs) : Canl (xs.map (Value.float .f32)) := by
  intro x hx
  obtain ⟨y, hy, rfl⟩ := List.mem_map.1 hx
  obtain ⟨i, hi, rfl⟩ := List.getElem_of_mem hy
  have := h i hi
  simp only [List.getD_eq_getElem?_getD, List.getElem?_eq_getElem hi, Option.getD_some] at this
  simp [cl, this]
theorem canF_of {xs : List Nat} (h : Canl (xs.map (Value.float .f32))) : CanF xs := by
  intro i hi
  have := h (.float .f32 (xs.getD i 0)) (List.mem_map.2 ⟨xs.getD i 0, by rw [List.getD_eq_getElem?_getD, List.getElem?_eq_getElem hi]; exact List.getElem_mem hi, rfl⟩)
  simpa [cl] using this
theorem hp_of_own {v : Value} {xs : List Nat} (hB : B ≤ W.heap.size) (hb : Below W.heap.size W W') (hu : OwnF W' W.heap.size v xs) : Hp B W W' [fRow v xs] :=
  (Hp.new hB).add hb ⟨ownsRow_base hu.1 fun _ _ => Nat.zero_le _, one_floats xs, can_floats hu.2⟩ fun b hk => hu.lt b hk
theorem Hp.ownF {v : Value} {n : Nat} {xs : List Nat} (H : Hp B A W l) (hm : Res.row 32 1 v n (xs.map (.float .f32)) ∈ l) : OwnF W A.heap.size v xs := by
  obtain ⟨h1, h2, h3⟩ := H.ok _ hm
  have hn : n = xs.length := by have := h1.1; simp at this; omega
  subst hn
  exact ⟨ownsRow_base h1 fun b hb => (H.own _ hm b hb).1, canF_of h3⟩
theorem Hp.slF {v : Value} {n : Nat} {xs : List Nat} (H : Hp B A W l) (hm : Res.row 32 1 v n (xs.map (.float .f32)) ∈ l) : SlF W v xs := (Hp.ownF H hm).sl
theorem Hp.slFA {v : Value} {xs : List Nat} (H : Hp B A W l) (hv : SlF A v xs) : SlF W v xs := hv.below H.below
theorem SlF.slV {a : Option Addr} {c : Nat} {xs : List Nat} (h : SlF W (.slice a xs.length c) xs) (hc : xs.length ≤ c) : SlV W 1 (.slice a xs.length c) xs.length (xs.map (.float .f32)) := by
  refine ⟨by simp, ?_⟩
  rcases h with ⟨h1, rfl⟩ | ⟨b, off, c', h1, h2⟩
  · exact .inl ⟨rfl, .inl h1⟩
  · cases h1
    refine .inr ⟨b, off, c, rfl, hc, fun i hi => ?_⟩
    obtain ⟨y, h3, h4⟩ := h2 i (by simpa using hi)
    refine ⟨_, h3, ?_, rfl⟩
    have hi' : i < xs.length := by simpa using hi
    simp only [cl, h4]
    simp [List.getD_eq_getElem?_getD, hi']
end
/-! ### records -/
section
variable {B : Nat} {A W W' : World} {l l' : List Res}
end
end Go.Proofs.Ytmplincflbhmiaa
namespace Go.Proofs.Ytmplincflbhmiaa
set_option linter.unusedSimpArgs false
set_option linter.unusedVariables false
open Go Cn Go.RowKit
section
variable {B : Nat} {A W W' : World} {L : List Res}
theorem Hp.recA {s : ByteArray} {st sp : Int} {a : Option Addr} {c : Nat} {xs : List Nat} (H : Hp B A W L) (hm : fRow (.slice a xs.length c) xs ∈ L) : RecA W (.agg #[.string s, .int .i64 st, .int .i64 sp, .slice a xs.length c]) s st sp xs := ⟨a, c, rfl, Hp.slF H hm⟩
end
end Go.Proofs.Ytmplincflbhmiaa
