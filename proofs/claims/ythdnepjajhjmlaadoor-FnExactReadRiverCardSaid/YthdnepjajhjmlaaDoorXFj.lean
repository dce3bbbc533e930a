/- Desks that are the same, both ways. -/
import Derived.Test.YthdnepjajhjmlaaDoorXFb
import Derived.Test.YthdnepjajhjmlaaDoorCn13
import Derived.Test.YthdnepjajhjmlaaDoorHc
import Derived.Test.YthdnepjajhjmlaaDoorXRg
import Derived.Test.YthdnepjajhjmlaaDoorFz
import Derived.Laws.StructEq
namespace Go.Proofs.YthdnepjajhjmlaaDoor
set_option linter.unusedSimpArgs false
set_option linter.unusedVariables false
open Go Cn Go.RowKit
theorem OwnF.row {W : World} {base : Nat} {v : Value} {xs : List Nat} (h : OwnF W base v xs) (hp : 0 < xs.length) : ∃ g cap cur, v = .slice (some ⟨g, 0, none⟩) xs.length cap ∧ base ≤ g ∧ W.heap[g]? = some (.cells cur 49 (0, 0)) ∧ xs.length ≤ cur.size := by
  rcases h.1.2 with ⟨-, h0⟩ | ⟨g, cap, cur, h1, h2, h3, h4, h5, h6, h7⟩
  · omega
  · exact ⟨g, cap, cur, h1, h2, h3, by omega⟩
theorem OwnF.set {W : World} {base g cap : Nat} {cur : Array Value} {xs : List Nat} {i y : Nat} (h : OwnF W base (.slice (some ⟨g, 0, none⟩) xs.length cap) xs) (hg : W.heap[g]? = some (.cells cur 49 (0, 0))) (hi : i < xs.length) (hy : cb .f32 y = y) :
    OwnF (W.setRow g (splice cur i [.float .f32 y])) base (.slice (some ⟨g, 0, none⟩) xs.length cap) (xs.set i y) := by
  obtain ⟨⟨h1, h2⟩, h3⟩ := h
  rcases h2 with ⟨e, -⟩ | ⟨g', cap', cur', e, a1, a2, a3, a4, a5, a6⟩
  · cases e
  · cases e
    rw [hg] at a2
    cases a2
    refine ⟨⟨by simp, .inr ⟨g, cap, splice cur i [.float .f32 y], by simp, a1, setRow_heap _ _ _ _ _ _ hg, by simpa using a3, a4, ?_, ?_⟩⟩, ?_⟩
    · have hs : (splice cur i [.float .f32 y]).size = cur.size := by
        unfold splice
        simp only [List.size_toArray, List.length_append, List.length_take, List.length_drop, Array.length_toList, List.length_singleton]
        omega
      rw [hs]; exact a5
    · apply List.ext_getElem?
      intro j
      by_cases hj : j < xs.length
      · rw [List.getElem?_take, if_pos (by simpa using hj), Array.getElem?_toList, splice_one (by omega)]
        have hcur : cur[j]? = some (.float .f32 (xs.getD j 0)) := by
          have : (cur.toList.take (xs.length * 1))[j]? = some (.float .f32 (xs.getD j 0)) := by
            rw [a6]; simp [List.getD_eq_getElem?_getD, hj]
          rw [List.getElem?_take, if_pos (by omega)] at this
          simpa using this
        by_cases e : j = i
        · subst e; rw [if_pos rfl]; simp [hi]
        · rw [if_neg e, hcur]; simp [show ¬ i = j from fun h => e h.symm, hj, List.getD_eq_getElem?_getD]
      · rw [List.getElem?_take, if_neg (by simpa using hj), List.getElem?_eq_none (by simpa using hj)]
    · intro j hj
      have hj' : j < xs.length := by simpa using hj
      by_cases e : i = j
      · subst e; simpa [List.getD_eq_getElem?_getD, List.getElem?_set, hj'] using hy
      · have := h3 j hj'
        simpa [List.getD_eq_getElem?_getD, List.getElem?_set, e, hj'] using this
theorem OwnF.lt {W : World} {base : Nat} {v : Value} {xs : List Nat} (h : OwnF W base v xs) : ∀ k, v.ownBlock = some k → base ≤ k ∧ k < W.heap.size := by
  rcases h.1.2 with ⟨rfl, -⟩ | ⟨g, cap, cur, rfl, hg, hh, -⟩
  · intro k hk; cases hk
  · intro k hk; cases hk
    refine ⟨hg, ?_⟩
    rcases Nat.lt_or_ge g W.heap.size with h | h
    · exact h
    · rw [Array.getElem?_eq_none h] at hh; cases hh
theorem OwnF.keep {W W' : World} {base : Nat} {v : Value} {xs : List Nat} (h : OwnF W base v xs) (hk : ∀ k, v.ownBlock = some k → W'.heap[k]? = W.heap[k]?) : OwnF W' base v xs := by
  obtain ⟨⟨h1, h2⟩, h3⟩ := h
  refine ⟨⟨h1, ?_⟩, h3⟩
  rcases h2 with h2 | ⟨g, cap, cur, hv, hg, hh, r⟩
  · exact .inl h2
  · refine .inr ⟨g, cap, cur, hv, hg, ?_, r⟩
    rw [hk g (by rw [hv]; rfl)]; exact hh
theorem OwnF.len {W : World} {base n c : Nat} {a : Option Addr} {xs : List Nat} (h : OwnF W base (.slice a n c) xs) : n = xs.length := by
  rcases h.1.2 with ⟨e, h0⟩ | ⟨g, cap, cur, e, -⟩
  · cases e; exact h0.symm
  · cases e; rfl
theorem OwnF.below {W W' : World} {base : Nat} {v : Value} {xs : List Nat} (h : OwnF W base v xs) (hb : Below W.heap.size W W') : OwnF W' base v xs := ⟨owns_below hb h.1, h.2⟩
section
variable {B : Nat} {W : World}
end
end Go.Proofs.YthdnepjajhjmlaaDoor
namespace Go.Proofs.YthdnepjajhjmlaaDoor
set_option linter.unusedSimpArgs false
set_option linter.unusedVariables false
open Go Cn Go.RowKit
theorem OwnF.same {W W' : World} {base b : Nat} {v : Value} {xs : List Nat} (h : OwnF W base v xs) (s : Same b W W') (hne : ∀ k, v.ownBlock = some k → k ≠ b) : OwnF W' base v xs := h.keep fun k hk => s.heap k (hne k hk)
theorem OwnF.cap {W : World} {base n c : Nat} {a : Option Addr} {xs : List Nat} (h : OwnF W base (.slice a n c) xs) : n ≤ c := by
  rcases h.1.2 with ⟨e, -⟩ | ⟨g, cap, cur, e, -, -, h4, -⟩
  · cases e; exact Nat.le_refl _
  · cases e; exact h4
/-- a record whose list the call owns -/
def RecO (W : World) (base : Nat) (v : Value) (s : ByteArray) (st sp : Int) (xs : List Nat) : Prop := ∃ a c, v = .agg #[.string s, .int .i64 st, .int .i64 sp, .slice a xs.length c] ∧ OwnF W base (.slice a xs.length c) xs
theorem RecO.below {W W' : World} {base : Nat} {v : Value} {s : ByteArray} {st sp : Int} {xs : List Nat} (h : RecO W base v s st sp xs) (hb : Below W.heap.size W W') : RecO W' base v s st sp xs := by
  obtain ⟨a, c, h1, h2⟩ := h
  exact ⟨a, c, h1, h2.below hb⟩
section
variable {B : Nat} {W : World}
end
/-! ### a list cut, and appended -/
theorem SlF.cut {W : World} {a : Option Addr} {n c l h : Nat} {xs : List Nat} (hv : SlF W (.slice a n c) xs) (h1 : l ≤ h) (h2 : h ≤ xs.length) (hc : n ≤ c) : ∃ a' c', sliced a l h c 1 = .slice a' (h - l) c' ∧ SlF W (.slice a' (h - l) c') ((xs.drop l).take (h - l)) ∧ h - l ≤ c' := by
  have hlen : ((xs.drop l).take (h - l)).length = h - l := by simp; omega
  rcases hv with ⟨e, rfl⟩ | ⟨b, off, c', e, hr⟩
  · cases e
    simp at h2
    subst h2
    have : l = 0 := by omega
    subst this
    exact ⟨none, 0, rfl, .inl ⟨rfl, by simp⟩, by omega⟩
  · cases e
    by_cases hcl : c = l
    · refine ⟨some ⟨b, off, none⟩, c - l, by simp [sliced, hcl], .inr ⟨b, off, c - l, by rw [hlen], fun i hi => ?_⟩, by omega⟩
      rw [hlen] at hi; omega
    · refine ⟨some ⟨b, off + l, none⟩, c - l, ?_, .inr ⟨b, off + l, c - l, by rw [hlen], fun i hi => ?_⟩, by omega⟩
      · simp only [sliced, if_neg hcl, Option.map_some, Nat.mul_one]
        congr 2
        unfold Addr.add
        split
        · simp_all
        · rfl
      · rw [hlen] at hi
        obtain ⟨y, h3, h4⟩ := hr (l + i) (by omega)
        refine ⟨y, by rw [Nat.add_assoc]; exact h3, ?_⟩
        rw [h4]
        simp [List.getD_eq_getElem?_getD, hi]
section app
variable {P : Program} {N B : Nat} {E : Env} {W : World} {ops : Array Oper} {K : Exit → Env → World → Prop} {D : World → Prop} {T : Tab} {i : Nat} {rest : List Nat} {d : Nat} {op : Op} {ty : TypeId} {pos : String} {aft : Array Edge} {g : Option (Nat × Bool)}
end app
section
variable {B : Nat} {W : World}
end
end Go.Proofs.YthdnepjajhjmlaaDoor
namespace Go.Proofs.YthdnepjajhjmlaaDoor
set_option linter.unusedSimpArgs false
set_option linter.unusedVariables false
open Go Cn Go.RowKit
section
variable {B : Nat} {A W W' : World} {l l' : List Res}
theorem SlF.slV {a : Option Addr} {c : Nat} {xs : List Nat} (h : SlF W (.slice a xs.length c) xs) (hc : xs.length ≤ c) : SlV W 1 (.slice a xs.length c) xs.length (xs.map (.float .f32)) := by
  refine ⟨by simp, ?_⟩
  rcases h with ⟨h1, rfl⟩ | ⟨b, off, c', h1, h2⟩
  · exact .inl ⟨rfl, .inl h1⟩
  · cases h1
    refine .inr ⟨b, off, c, rfl, hc, fun i hi => ?_⟩
    obtain ⟨y, h3, h4⟩ := h2 i (by simpa using hi)
    refine ⟨_, h3, ?_, rfl⟩
    have hi' : i < xs.length := by simpa using hi
    simp only [cl, h4]
    simp [List.getD_eq_getElem?_getD, hi']
end
/-! ### records -/
section
variable {B : Nat} {A W W' : World} {l l' : List Res}
end
end Go.Proofs.YthdnepjajhjmlaaDoor
namespace Go.Proofs.YthdnepjajhjmlaaDoor.Cn
set_option linter.unusedSimpArgs false
set_option linter.unusedVariables false
open Go Go.RowKit
section
variable {P : Program} {N B : Nat} {E : Env} {A W : World} {ops : Array Oper} {K : Exit → Env → World → Prop} {T : Tab} {l l0 l' : List Res} {o : Oper}
variable {i : Nat} {rest q q' : List Nat} {d : Nat} {op : Op} {ty : TypeId} {pos : String} {aft : Array Edge} {g : Option (Nat × Bool)}
end
end Go.Proofs.YthdnepjajhjmlaaDoor.Cn
namespace Go.Proofs.YthdnepjajhjmlaaDoor
set_option linter.unusedSimpArgs false
set_option linter.unusedVariables false
open Go Cn Go.RowKit
section
variable {B : Nat} {W : World}
theorem OwnF.one {W : World} {x : Nat} (hx : cb .f32 x = x) : OwnF (W.alloc (.cells (cellsAll [.float .f32 x]) 49)) W.heap.size (.slice (some ⟨W.heap.size, 0, none⟩) 1 1) [x] := by
  refine ⟨⟨rfl, .inr ⟨W.heap.size, 1, cellsAll [.float .f32 x], rfl, Nat.le_refl _, heap_alloc_new W _, by simp, by decide, rfl, rfl⟩⟩, fun i hi => ?_⟩
  have : i = 0 := by simpa using hi
  subst this
  exact hx
end
end Go.Proofs.YthdnepjajhjmlaaDoor
namespace Go.Proofs.YthdnepjajhjmlaaDoor
set_option linter.unusedSimpArgs false
set_option linter.unusedVariables false
open Go Cn Go.RowKit
structure Dsk where
  w : Int
  h : Int
  hs : List Nat
  s0 : Nat
  s1 : Nat
  s2 : Nat
  s3 : Nat
  s4 : Nat
  t0 : Nat
  t1 : Nat
  t2 : Nat
  t3 : Nat
  r : Riv
/-- what is read of a desk -/
structure DkS (W : World) (d : Dsk) (a : Option Addr) (c : Nat) (p1 : Option Addr) (k1 : Nat) (p2 : Option Addr) (k2 : Nat) (p3 : Option Addr) (k3 : Nat) : Prop where
  hs : SlF W (.slice a d.hs.length c) d.hs
  r : RvS W p1 k1 p2 k2 p3 k3 d.r
def Dsk.small (d : Dsk) : Prop := d.hs.length ≤ 1048576 ∧ d.r.small
section
variable {B : Nat} {A W W' : World} {L L' : List Res} {p1 p2 p3 p4 p5 p6 a a' : Option Addr} {k1 k2 k3 k4 k5 k6 c c' : Nat} {d : Dsk}
theorem DkS.below (h : DkS A d a c p1 k1 p2 k2 p3 k3) (hb : Below A.heap.size A W) : DkS W d a c p1 k1 p2 k2 p3 k3 := ⟨h.hs.below hb, h.r.below hb⟩
end
end Go.Proofs.YthdnepjajhjmlaaDoor
namespace Go.Proofs.YthdnepjajhjmlaaDoor
set_option linter.unusedSimpArgs false
set_option linter.unusedVariables false
open Go Cn Go.RowKit
/-! ### the sign, seen in the wider number -/
end Go.Proofs.YthdnepjajhjmlaaDoor
namespace Go.Proofs.YthdnepjajhjmlaaDoor
set_option linter.unusedSimpArgs false
set_option linter.unusedVariables false
open Go Cn Go.RowKit
section
variable {B : Nat} {A W W' : World} {L L' : List Res}
end
end Go.Proofs.YthdnepjajhjmlaaDoor
namespace Go.Proofs.YthdnepjajhjmlaaDoor
set_option linter.unusedSimpArgs false
set_option linter.unusedVariables false
open Go Cn Go.RowKit
set_option linter.unusedSimpArgs false
set_option linter.unusedVariables false
instance : DecidableEq Dm := fun a b => decidable_of_iff (a.sz = b.sz ∧ a.dd = b.dd ∧ a.ls = b.ls ∧ a.nw = b.nw) (by cases a; cases b; simp)
section
variable {N B : Nat} {E : Env} {W : World} {o : Oper}
theorem gh_rd {b k off i : Nat} {ys : List Value} {v : Value} (hv : evLd tab E o = some ⟨b, k, none⟩) (hr : RdV W b off ys) (hk : k = off + i) (hi : i < ys.length) (hy : ys.getD i undef = v) : Gives Tryd.prog N B o E W v W := by
  obtain ⟨u, h1, h2, h3⟩ := hr i hi
  refine gh_read tabOk hv hr hk hi hy ?_
  rw [← hy, ← h2]; exact cv_cl1 h3
end
section
variable {B : Nat} {A W W' : World} {L L' : List Res}
end
end Go.Proofs.YthdnepjajhjmlaaDoor
