/- Parts of a heap told together: lists of lists. -/
import Derived.Test.YthdnepjajhjmlaaGreatDoorHr
namespace Go.Proofs.YthdnepjajhjmlaaGreatDoor.Cn
set_option linter.unusedSimpArgs false
set_option linter.unusedVariables false
open Go Go.RowKit
def Res.many (rs : List Res) : Res := .deep (fun b => ∃ r ∈ rs, r.foot b) (fun W => (∀ r ∈ rs, r.ok W) ∧ rs.Pairwise Res.apart)
section
variable {B : Nat} {A W W' : World} {l l' L L' rs rs' : List Res} {r r' : Res}
end
/-! ### lists of lists of whole numbers, read -/
abbrev Sv : Type := Option Addr × Nat × Nat
abbrev slV (s : Sv) : Value := .slice s.1 s.2.1 s.2.2
def sv0 : Sv := (none, 0, 0)
def SlII (W : World) (v : Value) (xss : List (List Int)) : Prop := ∃ us : List Sv, us.length = xss.length ∧ SlV W 1 v xss.length (us.map slV) ∧ ∀ j, j < xss.length → SlI W (slV (us.getD j sv0)) (xss.getD j [])
section
variable {B : Nat} {A W W' : World} {l l' L L' : List Res}
theorem SlII.below {v : Value} {xss : List (List Int)} (h : SlII A v xss) (hb : Below A.heap.size A W) : SlII W v xss := by
  obtain ⟨us, h1, h2, h3⟩ := h
  exact ⟨us, h1, h2.below hb, fun j hj => (h3 j hj).below hb⟩
theorem SlII.form {v : Value} {xss : List (List Int)} (h : SlII W v xss) : ∃ a c, v = .slice a xss.length c ∧ xss.length ≤ c := by
  obtain ⟨us, h1, h2, h3⟩ := h
  exact h2.form
theorem SlII.read {a : Option Addr} {c : Nat} {xss : List (List Int)} (h : SlII W (.slice a xss.length c) xss) (hn : 0 < xss.length) : ∃ b off, a = some ⟨b, off, none⟩ ∧ ∃ us : List Sv, us.length = xss.length ∧ RdV W b off (us.map slV) ∧ ∀ j, j < xss.length → SlI W (slV (us.getD j sv0)) (xss.getD j []) := by
  obtain ⟨us, h1, h2, h3⟩ := h
  obtain ⟨b, off, h4, h5⟩ := h2.read hn
  exact ⟨b, off, h4, us, h1, h5, h3⟩
end
/-! ### pushes in a drawn order -/
section
variable {P : Program} {N B : Nat} {E : Env} {A W : World} {ops : Array Oper} {K : Exit → Env → World → Prop} {T : Tab} {l l0 : List Res}
variable {i : Nat} {q : List Nat} {d : Nat} {op : Op} {ty : TypeId} {pos : String} {aft : Array Edge} {g : Option (Nat × Bool)}
end
end Go.Proofs.YthdnepjajhjmlaaGreatDoor.Cn
