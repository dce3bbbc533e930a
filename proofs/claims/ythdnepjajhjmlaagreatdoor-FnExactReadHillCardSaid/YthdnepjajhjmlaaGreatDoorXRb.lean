/- Dams: looked through, copied, compared, marked. -/
import Derived.Test.YthdnepjajhjmlaaGreatDoorXRa
namespace Go.Proofs.YthdnepjajhjmlaaGreatDoor
set_option linter.unusedSimpArgs false
set_option linter.unusedVariables false
open Go Cn Go.RowKit
structure Dm where
  sz : Int
  dd : Int
  ls : Int
  nw : Int
def dm0 : Dm := ⟨0, 0, 0, 0⟩
def dC (d : Dm) : List Value := [.int .i64 d.sz, .int .i64 d.dd, .int .i64 d.ls, .int .i64 d.nw]
abbrev dCs (ds : List Dm) : List Value := ds.flatMap dC
def SlD (W : World) (v : Value) (ds : List Dm) : Prop := SlV W 4 v ds.length (dCs ds)
section
variable {B : Nat} {A W W' : World} {L L' : List Res}
theorem SlD.below {v : Value} {xs : List Dm} (h : SlD A v xs) (hb : Below A.heap.size A W) : SlD W v xs := SlV.below h hb
theorem SlD.form {v : Value} {xs : List Dm} (h : SlD W v xs) : ∃ a c, v = .slice a xs.length c ∧ xs.length ≤ c := SlV.form h
theorem SlD.read {a : Option Addr} {c : Nat} {xs : List Dm} (h : SlD W (.slice a xs.length c) xs) (hn : 0 < xs.length) : ∃ b off, a = some ⟨b, off, none⟩ ∧ RdV W b off (dCs xs) := SlV.read h hn
theorem RdV.sub {b off : Nat} {ys : List Value} (h : RdV W b off ys) (i n : Nat) (hi : i + n ≤ ys.length) : RdV W b (off + i) ((ys.drop i).take n) := by
  intro j hj
  have hj' : j < n := by simp at hj; omega
  obtain ⟨u, h1, h2, h3⟩ := h (i + j) (by omega)
  refine ⟨u, by rw [Nat.add_assoc]; exact h1, ?_, h3⟩
  rw [h2, List.getD_eq_getElem?_getD, List.getD_eq_getElem?_getD, List.getElem?_take, if_pos hj', List.getElem?_drop]
end
/-! ### laws -/
section
variable {B : Nat} {A W W' : World} {L L' : List Res}
end
end Go.Proofs.YthdnepjajhjmlaaGreatDoor
