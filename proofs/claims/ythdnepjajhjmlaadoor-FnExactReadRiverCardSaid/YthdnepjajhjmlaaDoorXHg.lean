/- Lists whose elements own parts of the heap. -/
import Derived.Test.YthdnepjajhjmlaaDoorXHm
namespace Go.Proofs.YthdnepjajhjmlaaDoor.Cn
set_option linter.unusedSimpArgs false
set_option linter.unusedVariables false
open Go Go.RowKit
theorem Picks.all : ∀ L : List Res, Picks L L []
  | [] => .nil
  | _ :: L => .cons .here (Picks.all L)
section
variable {α : Type} {f : α → List Value} {g : α → List Res} {E : TypeId} {k : Nat} {v : Value} {ys : List α}
variable {B : Nat} {A W W' : World} {L : List Res}
end
section
variable {P : Program} {N B : Nat} {E : Env} {A W : World} {ops : Array Oper} {K : Exit → Env → World → Prop} {D : World → Prop} {T : Tab} {l l' : List Res}
variable {i : Nat} {rest : List Nat} {d : Nat} {op : Op} {ty : TypeId} {pos : String} {aft : Array Edge} {g : Option (Nat × Bool)}
/-- one element of several cells pushed: the literal lies at the head -/
theorem sh_pushA (hT : TabOk P T) {α : Type} (f : α → List Value) (y : α) {ys : List α} {e : TypeId} {tt : TT} {v u : Value} {n k : Nat} {l' : Option Addr → Nat → List Res} (H : Hp B A W (.row e k u 1 (f y) :: l)) (ho : getL ops.toList i = some ⟨some d, op, ty, pos, aft, g⟩) (hg : guardE ops ⟨some d, op, ty, pos, aft, g⟩ E = some true) (hd : Nat.ble (d + 1) N = true)
    (hv : evAp T E ⟨some d, op, ty, pos, aft, g⟩ = some (e, v, u)) (ht : T.at e = some tt) (hsz : k = tt.size) (hz : Nat.beq tt.zero.cells.size tt.size = true) (hpos : Nat.ble 1 tt.size = true) (hb : Nat.ble tt.bytes 128 = true)
    (hU : ∀ a c, Upd l (.row e k v n (ys.flatMap f)) (.row e k (.slice a (n + 1) c) (n + 1) ((ys ++ [y]).flatMap f)) (l' a c)) (hnm : n ≤ 1099511627775)
    (h : ∀ a c W', Hp B A W' (l' a c) → AOps P N B ops rest K ((d, .slice a (n + 1) c) :: E) W') : AOps P N B ops (i :: rest) K E W := by
  have hs := H.row_sl (List.Mem.head _)
  have H1 := H.sub (List.sublist_cons_self _ _)
  subst hsz
  have hbt := Nat.le_of_ble_eq_true hb
  have hm : (n + 1) * tt.bytes ≤ 1099511627776 * 128 := Nat.mul_le_mul (by omega) hbt
  refine s_yields ho hg hd (yieldsH_append hT hv ht H1 (hU none 0).mem hs (Nat.eq_of_beq_eq_true hz) (Nat.le_of_ble_eq_true hpos) (by simp only [maxLen]; omega) (by omega)) fun v' W' q => ?_
  obtain ⟨a, c, rfl, q⟩ := q
  refine h a c W' (q _ ?_)
  have := hU a c
  rwa [List.flatMap_append, List.flatMap_cons, List.flatMap_nil, List.append_nil] at this
end
end Go.Proofs.YthdnepjajhjmlaaDoor.Cn
