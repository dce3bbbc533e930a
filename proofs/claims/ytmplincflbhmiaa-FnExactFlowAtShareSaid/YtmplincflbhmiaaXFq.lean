/- Rows of the call's own, whatever they hold; bytes made a text. -/
import Derived.Test.YtmplincflbhmiaaHr
import Derived.Laws.BytesArg
namespace Go.Proofs.Ytmplincflbhmiaa
set_option linter.unusedSimpArgs false
set_option linter.unusedVariables false
open Go Cn Go.RowKit
theorem owns_below {W W' : World} {base : Nat} {e : TypeId} {size n : Nat} {v : Value} {xs : List Value} (hb : Below W.heap.size W W') (h : W.ownsRow base e size v n xs) : W'.ownsRow base e size v n xs := by
  obtain ⟨h1, h2⟩ := h
  refine ⟨h1, ?_⟩
  rcases h2 with h2 | ⟨g, cap, cur, hv, hg, hh, r⟩
  · exact .inl h2
  · refine .inr ⟨g, cap, cur, hv, hg, ?_, r⟩
    rw [hb.block g (by
      rcases Nat.lt_or_ge g W.heap.size with h | h
      · exact h
      · rw [Array.getElem?_eq_none h] at hh; cases hh)]
    exact hh
/-! ### rows of the call's own, whatever they hold -/
def OwnV (W : World) (base : Nat) (e : TypeId) (v : Value) (xs : List Value) : Prop := W.ownsRow base e 1 v xs.length xs
theorem OwnV.form {W : World} {base : Nat} {e : TypeId} {v : Value} {xs : List Value} (h : OwnV W base e v xs) : ∃ a c, v = .slice a xs.length c := by
  rcases h.2 with ⟨rfl, h0⟩ | ⟨g, cap, cur, rfl, -⟩
  · exact ⟨none, 0, by rw [h0]⟩
  · exact ⟨_, _, rfl⟩
theorem OwnV.new {W : World} {base : Nat} {e : TypeId} (h : base ≤ W.heap.size) : OwnV (W.alloc (.cells #[] e)) base e (.slice (some ⟨W.heap.size, 0, none⟩) 0 0) [] :=
  ⟨rfl, .inr ⟨W.heap.size, 0, #[], rfl, h, heap_alloc_new W _, by simp, by decide, rfl, rfl⟩⟩
theorem OwnV.cells {W : World} {base b off n c : Nat} {e : TypeId} {xs : List Value} {sp : Option Nat} (h : OwnV W base e (.slice (some ⟨b, off, sp⟩) n c) xs) : off = 0 ∧ sp = none ∧ base ≤ b ∧ n = xs.length ∧ ∀ i, i < xs.length → W.cell? ⟨b, i, none⟩ = some (xs.getD i undef) := by
  rcases h.2 with ⟨h1, -⟩ | ⟨g, cap, cur, h1, hg, hh, -, -, -, hx⟩
  · cases h1
  · cases h1
    refine ⟨rfl, rfl, hg, rfl, fun i hi => ?_⟩
    have : (cur.toList.take (xs.length * 1))[i]? = some (xs.getD i undef) := by
      rw [hx]; simp [List.getD_eq_getElem?_getD, hi]
    rw [List.getElem?_take, if_pos (by omega)] at this
    simp only [World.cell?, hh]
    simpa using this
section push
variable {P : Program} {N B : Nat} {E : Env} {W : World} {ops : Array Oper} {K : Exit → Env → World → Prop} {D : World → Prop} {T : Tab} {i : Nat} {rest : List Nat} {d : Nat} {op : Op} {ty : TypeId} {pos : String} {aft : Array Edge} {g : Option (Nat × Bool)}
end push
end Go.Proofs.Ytmplincflbhmiaa
