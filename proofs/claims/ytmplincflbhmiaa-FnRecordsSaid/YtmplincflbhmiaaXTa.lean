/- Lists of records in laws: what they own, comparison, marks. -/
import Derived.Test.YtmplincflbhmiaaXHg
import Derived.Test.YtmplincflbhmiaaXFj
namespace Go.Proofs.Ytmplincflbhmiaa
set_option linter.unusedSimpArgs false
set_option linter.unusedVariables false
open Go Cn Go.RowKit
theorem takePush {α : Type} {xs : List α} {i : Nat} (d : α) (h : i < xs.length) : xs.take (i + 1) = xs.take i ++ [xs.getD i d] := by
  rw [List.take_succ_eq_append_getElem h]
  simp [List.getD_eq_getElem?_getD, h]
section
variable {P : Program} {N B : Nat} {E : Env} {A W : World} {ops : Array Oper} {K : Exit → Env → World → Prop} {T : Tab} {l : List Res}
variable {i : Nat} {rest : List Nat} {d : Nat} {op : Op} {ty : TypeId} {pos : String} {aft : Array Edge} {g : Option (Nat × Bool)}
end
structure Rcd where
  s : ByteArray
  st : Int
  sp : Int
  xs : List Nat
abbrev RcY : Type := (Option Addr × Nat) × Rcd
def rc0 : RcY := ((none, 0), ⟨⟨#[]⟩, 0, 0, []⟩)
abbrev rcF (y : RcY) : List Value := [.string y.2.s, .int .i64 y.2.st, .int .i64 y.2.sp, .slice y.1.1 y.2.xs.length y.1.2]
abbrev rcG (y : RcY) : List Res := [fRow (.slice y.1.1 y.2.xs.length y.1.2) y.2.xs]
abbrev rcS (W : World) (y : RcY) : Prop := SlF W (.slice y.1.1 y.2.xs.length y.1.2) y.2.xs
theorem rcF_len (y : RcY) : (rcF y).length = 4 := rfl
abbrev rcM (v : Value) (ys : List RcY) : Res := .many (lsG 44 4 rcF rcG v ys)
abbrev rcI (ys : List RcY) : Res := .many (ys.flatMap rcG)
/-- what is read of a list of records -/
def SlC (W : World) (v : Value) (ys : List RcY) : Prop := SlV W 4 v ys.length (ys.flatMap rcF) ∧ ∀ j, j < ys.length → rcS W (ys.getD j rc0)
abbrev rcSA (W : World) (y : RcY) : Prop := SlV W 1 (.slice y.1.1 y.2.xs.length y.1.2) y.2.xs.length (y.2.xs.map (.float .f32))
/-- the same of an argument: an empty list may lie anywhere -/
def SlCA (W : World) (v : Value) (ys : List RcY) : Prop := SlV W 4 v ys.length (ys.flatMap rcF) ∧ ∀ j, j < ys.length → rcSA W (ys.getD j rc0)
def rcN (r : Rcd) : Nat := r.s.size + r.xs.length
def totC (ys : List RcY) : Nat := (ys.map fun y => rcN y.2).sum
theorem totC_take {ys : List RcY} {i : Nat} (h : i < ys.length) : totC (ys.take (i + 1)) = totC (ys.take i) + rcN (ys.getD i rc0).2 := by
  unfold totC
  rw [List.take_succ_eq_append_getElem h, List.map_append, List.sum_append]
  simp [List.getD_eq_getElem?_getD, h]
theorem totC_le (ys : List RcY) (i : Nat) : totC (ys.take i) ≤ totC ys := by
  unfold totC
  conv => rhs; rw [← List.take_append_drop i ys]
  rw [List.map_append, List.sum_append]
  omega
theorem totC_getD {ys : List RcY} {i : Nat} (h : i < ys.length) : rcN (ys.getD i rc0).2 ≤ totC ys := by
  have := totC_take h
  have := totC_le ys (i + 1)
  omega
section
variable {B : Nat} {A W W' : World} {L L' : List Res}
theorem SlC.below {v : Value} {ys : List RcY} (h : SlC A v ys) (hb : Below A.heap.size A W) : SlC W v ys := ⟨h.1.below hb, fun j hj => (h.2 j hj).below hb⟩
theorem SlC.form {v : Value} {ys : List RcY} (h : SlC W v ys) : ∃ a c, v = .slice a ys.length c ∧ ys.length ≤ c := h.1.form
theorem SlC.read {a : Option Addr} {c : Nat} {ys : List RcY} (h : SlC W (.slice a ys.length c) ys) (hn : 0 < ys.length) : ∃ b off, a = some ⟨b, off, none⟩ ∧ RdV W b off (ys.flatMap rcF) := h.1.read hn
theorem SlCA.below {v : Value} {ys : List RcY} (h : SlCA A v ys) (hb : Below A.heap.size A W) : SlCA W v ys := ⟨h.1.below hb, fun j hj => (h.2 j hj).below hb⟩
theorem SlCA.form {v : Value} {ys : List RcY} (h : SlCA W v ys) : ∃ a c, v = .slice a ys.length c ∧ ys.length ≤ c := h.1.form
theorem SlCA.read {a : Option Addr} {c : Nat} {ys : List RcY} (h : SlCA W (.slice a ys.length c) ys) (hn : 0 < ys.length) : ∃ b off, a = some ⟨b, off, none⟩ ∧ RdV W b off (ys.flatMap rcF) := h.1.read hn
theorem row_slf {v : Value} {xs : List Nat} (h : (fRow v xs).ok W) : SlF W v xs := OwnF.sl (base := 0) ⟨h.1, canF_of h.2.2⟩
theorem Hp.slc {v : Value} {ys : List RcY} (H : Hp B A W L) (hm : rcM v ys ∈ L) : SlC W v ys := ⟨H.gSl hm, fun j hj => row_slf (H.gIn hm rc0 hj (List.Mem.head _))⟩
/-- copies: the same records -/
def sameC (ys zs : List RcY) : Prop := zs.map (·.2) = ys.map (·.2)
theorem sameC.len {ys zs : List RcY} (h : sameC ys zs) : zs.length = ys.length := by have := congrArg List.length h; simpa using this
theorem sameC.get {ys zs : List RcY} (h : sameC ys zs) {j : Nat} (hj : j < ys.length) : (zs.getD j rc0).2 = (ys.getD j rc0).2 := by
  have hz : j < zs.length := by rw [h.len]; exact hj
  have := congrArg (fun l => l[j]?) h
  simpa [List.getD_eq_getElem?_getD, hj, hz] using this
theorem sameC.tot {ys zs : List RcY} (h : sameC ys zs) : totC zs = totC ys := by
  have e : ∀ l : List RcY, l.map (fun y => rcN y.2) = (l.map (·.2)).map rcN := fun l => by simp
  unfold totC
  rw [e, e, h]
theorem recA_of {y : RcY} (h : rcS W y) : RecA W (.agg (rcF y).toArray) y.2.s y.2.st y.2.sp y.2.xs := ⟨_, _, rfl, h⟩
/-! ### sizes -/
/-! ### copies -/
end
end Go.Proofs.Ytmplincflbhmiaa
