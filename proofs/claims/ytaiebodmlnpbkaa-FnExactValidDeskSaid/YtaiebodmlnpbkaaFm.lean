/- Records cut. -/
import Derived.Test.YtaiebodmlnpbkaaCn13
import Derived.Test.YtaiebodmlnpbkaaFj
namespace Go.Proofs.Ytaiebodmlnpbkaa
set_option linter.unusedSimpArgs false
set_option linter.unusedVariables false
open Go Cn Go.RowKit
theorem OwnF.same {W W' : World} {base b : Nat} {v : Value} {xs : List Nat} (h : OwnF W base v xs) (s : Same b W W') (hne : ∀ k, v.ownBlock = some k → k ≠ b) : OwnF W' base v xs := h.keep fun k hk => s.heap k (hne k hk)
theorem OwnF.weak {W : World} {base base' : Nat} {v : Value} {xs : List Nat} (h : OwnF W base v xs) (hb : base' ≤ base) : OwnF W base' v xs := by
  obtain ⟨⟨h1, h2⟩, h3⟩ := h
  refine ⟨⟨h1, ?_⟩, h3⟩
  rcases h2 with h2 | ⟨g, cap, cur, hv, hg, r⟩
  · exact .inl h2
  · exact .inr ⟨g, cap, cur, hv, by omega, r⟩
theorem OwnF.cap {W : World} {base n c : Nat} {a : Option Addr} {xs : List Nat} (h : OwnF W base (.slice a n c) xs) : n ≤ c := by
  rcases h.1.2 with ⟨e, -⟩ | ⟨g, cap, cur, e, -, -, h4, -⟩
  · cases e; exact Nat.le_refl _
  · cases e; exact h4
/-- a record whose list the call owns -/
def RecO (W : World) (base : Nat) (v : Value) (s : ByteArray) (st sp : Int) (xs : List Nat) : Prop := ∃ a c, v = .agg #[.string s, .int .i64 st, .int .i64 sp, .slice a xs.length c] ∧ OwnF W base (.slice a xs.length c) xs
theorem RecO.rec {W : World} {base : Nat} {v : Value} {s : ByteArray} {st sp : Int} {xs : List Nat} (h : RecO W base v s st sp xs) : RecA W v s st sp xs := by
  obtain ⟨a, c, h1, h2⟩ := h
  exact ⟨a, c, h1, h2.sl⟩
theorem RecO.below {W W' : World} {base : Nat} {v : Value} {s : ByteArray} {st sp : Int} {xs : List Nat} (h : RecO W base v s st sp xs) (hb : Below W.heap.size W W') : RecO W' base v s st sp xs := by
  obtain ⟨a, c, h1, h2⟩ := h
  exact ⟨a, c, h1, h2.below hb⟩
section
variable {B : Nat} {W : World}
end
/-! ### a list cut, and appended -/
theorem SlF.cut {W : World} {a : Option Addr} {n c l h : Nat} {xs : List Nat} (hv : SlF W (.slice a n c) xs) (h1 : l ≤ h) (h2 : h ≤ xs.length) (hc : n ≤ c) : ∃ a' c', sliced a l h c 1 = .slice a' (h - l) c' ∧ SlF W (.slice a' (h - l) c') ((xs.drop l).take (h - l)) ∧ h - l ≤ c' := by
  have hlen : ((xs.drop l).take (h - l)).length = h - l := by simp; omega
  rcases hv with ⟨e, rfl⟩ | ⟨b, off, c', e, hr⟩
  · cases e
    simp at h2
    subst h2
    have : l = 0 := by omega
    subst this
    exact ⟨none, 0, rfl, .inl ⟨rfl, by simp⟩, by omega⟩
  · cases e
    by_cases hcl : c = l
    · refine ⟨some ⟨b, off, none⟩, c - l, by simp [sliced, hcl], .inr ⟨b, off, c - l, by rw [hlen], fun i hi => ?_⟩, by omega⟩
      rw [hlen] at hi; omega
    · refine ⟨some ⟨b, off + l, none⟩, c - l, ?_, .inr ⟨b, off + l, c - l, by rw [hlen], fun i hi => ?_⟩, by omega⟩
      · simp only [sliced, if_neg hcl, Option.map_some, Nat.mul_one]
        congr 2
        unfold Addr.add
        split
        · simp_all
        · rfl
      · rw [hlen] at hi
        obtain ⟨y, h3, h4⟩ := hr (l + i) (by omega)
        refine ⟨y, by rw [Nat.add_assoc]; exact h3, ?_⟩
        rw [h4]
        simp [List.getD_eq_getElem?_getD, hi]
section app
variable {P : Program} {N B : Nat} {E : Env} {W : World} {ops : Array Oper} {K : Exit → Env → World → Prop} {D : World → Prop} {T : Tab} {i : Nat} {rest : List Nat} {d : Nat} {op : Op} {ty : TypeId} {pos : String} {aft : Array Edge} {g : Option (Nat × Bool)}
theorem yields_appendF (hT : TabOk P T) {o : Oper} {base b off c : Nat} {v : Value} {xs ys : List Nat} {z : Value} (hv : evAp T E o = some (33, v, .slice (some ⟨b, off, none⟩) ys.length c)) (ht : T.at 33 = some ⟨.float .f32, 1, 4, z⟩) (hz : z.cells.size = 1)
    (hu : OwnF W base v xs) (hB : B ≤ base) (hb : base ≤ W.heap.size) (hy : RdF W b off ys) (hl : xs.length ≤ 1048577) (hl' : ys.length ≤ 1048577) :
    Go.Proofs.Ytaiebodmlnpbkaa.Cn.Yields P N B o E W (fun v' W' => OwnF W' base v' (xs ++ ys) ∧ Below base W W') := by
  intro a w ha hw hB'
  obtain ⟨f, hf⟩ := Deep.choose_lt (α := Nat) hy
  have hcells : Cells W b off ((List.range ys.length).map fun i => Value.float .f32 (f i)) := by
    intro j u hj
    have hjl : j < ys.length := by
      have := (List.getElem?_eq_some_iff.1 hj).1
      simpa using this
    simp [hjl] at hj
    subst hj
    exact (hf j hjl).1
  have hmap : ((List.range ys.length).map fun i => Value.float .f32 (f i)).map cl = ys.map (Value.float .f32) := by
    apply List.ext_getElem?
    intro j
    by_cases hj : j < ys.length
    · have := (hf j hj).2
      simp [hj, cl, this, List.getD_eq_getElem?_getD]
    · simp [hj]
  have hcan : CanF ys := by
    intro j hj
    have := (hf j hj).2
    rw [← this, cb_cb]
  obtain ⟨r, w', h2, h3, h4⟩ := yields_append (P := P) (N := N) (B := B) (E := E) (W := W) hT hv ht hu.1 hB hb hcells (by simp) (by simp [Value.oneCell']) hz Nat.one_pos (by show xs.length + ys.length ≤ 9223372036854775807; omega) (by show (xs.length + ys.length) * 4 ≤ 140737488355328; omega) a w ha hw hB'
  refine ⟨r, w', h2, h3, ⟨?_, ?_⟩, ((Below.refl base W).grown h4.2.1 hb (own_lt hu.1))⟩
  · have := h4.1
    rw [hmap, ← List.map_append] at this
    simpa using this
  · intro j hj
    by_cases h1 : j < xs.length
    · have := hu.2 j h1
      simpa [List.getD_eq_getElem?_getD, List.getElem?_append_left h1, h1] using this
    · have h5 : j - xs.length < ys.length := by simp at hj; omega
      have := hcan (j - xs.length) h5
      simpa [List.getD_eq_getElem?_getD, List.getElem?_append_right (Nat.le_of_not_lt h1)] using this
theorem s_appendF (hT : TabOk P T) {base b off c : Nat} {v : Value} {xs ys : List Nat} {z : Value} (ho : getL ops.toList i = some ⟨some d, op, ty, pos, aft, g⟩) (hg : guardE ops ⟨some d, op, ty, pos, aft, g⟩ E = some true) (hd : Nat.ble (d + 1) N = true)
    (hv : evAp T E ⟨some d, op, ty, pos, aft, g⟩ = some (33, v, .slice (some ⟨b, off, none⟩) ys.length c)) (ht : T.at 33 = some ⟨.float .f32, 1, 4, z⟩) (hz : z.cells.size = 1)
    (hu : OwnF W base v xs) (hB : B ≤ base) (hb : base ≤ W.heap.size) (hy : RdF W b off ys) (hl : xs.length ≤ 1048577) (hl' : ys.length ≤ 1048577)
    (k : ∀ v' W', OwnF W' base v' (xs ++ ys) → Below base W W' → AOps P N B ops rest K ((d, v') :: E) W') : AOps P N B ops (i :: rest) K E W :=
  aops_yields (getL_ok ho) hg hd (yields_appendF hT hv ht hz hu hB hb hy hl hl') (fun v' W' hR => k v' W' hR.1 hR.2)
theorem d_appendF (hT : TabOk P T) {base b off c : Nat} {v : Value} {xs ys : List Nat} {z : Value} (ho : getL ops.toList i = some ⟨some d, op, ty, pos, aft, g⟩) (hg : guardE ops ⟨some d, op, ty, pos, aft, g⟩ E = some true) (hd : Nat.ble (d + 1) N = true)
    (hv : evAp T E ⟨some d, op, ty, pos, aft, g⟩ = some (33, v, .slice (some ⟨b, off, none⟩) ys.length c)) (ht : T.at 33 = some ⟨.float .f32, 1, 4, z⟩) (hz : z.cells.size = 1) (hm : only ops i rest = true)
    (hu : OwnF W base v xs) (hB : B ≤ base) (hb : base ≤ W.heap.size) (hy : RdF W b off ys) (hl : xs.length ≤ 1048577) (hl' : ys.length ≤ 1048577)
    (k : ∀ v' W', OwnF W' base v' (xs ++ ys) → Below base W W' → D W' ∧ SD P N B ops D K rest ((d, v') :: E) W') : SD P N B ops D K (i :: rest) E W :=
  d_yields ho hg hd hm (yields_appendF hT hv ht hz hu hB hb hy hl hl') (fun v' W' hR => k v' W' hR.1 hR.2)
end app
section
variable {B : Nat} {W : World}
end
end Go.Proofs.Ytaiebodmlnpbkaa
