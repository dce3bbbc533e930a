/- Lists whose elements own parts of the heap. -/
import Derived.Test.YtmplincflbhmiaaXHm
namespace Go.Proofs.Ytmplincflbhmiaa.Cn
set_option linter.unusedSimpArgs false
set_option linter.unusedVariables false
open Go Go.RowKit
theorem upd_in {r r' : Res} {b b' : List Res} : ∀ (a : List Res), Upd b r r' b' → Upd (a ++ b) r r' (a ++ b')
  | [], h => h
  | _ :: a, h => .there (upd_in a h)
theorem Picks.all : ∀ L : List Res, Picks L L []
  | [] => .nil
  | _ :: L => .cons .here (Picks.all L)
section
variable {α : Type} {f : α → List Value} {g : α → List Res} {E : TypeId} {k : Nat} {v : Value} {ys : List α}
/-- the parts of such a list: the row, and what its elements own -/
def lsG (E : TypeId) (k : Nat) (f : α → List Value) (g : α → List Res) (v : Value) (ys : List α) : List Res := .row E k v ys.length (ys.flatMap f) :: ys.flatMap g
variable {B : Nat} {A W W' : World} {L : List Res}
theorem Hp.packG (h : Hp B A W (.row E k v ys.length (ys.flatMap f) :: .many (ys.flatMap g) :: L)) : Hp B A W (.many (lsG E k f g v ys) :: L) := by
  refine Hp.pack ?_
  have h2 := Hp.unpack (h.perm (List.Perm.swap _ _ _))
  exact h2.perm List.perm_middle
theorem Hp.nilG (h : Hp B A W L) : Hp B A W (.many (([] : List α).flatMap g) :: L) := Hp.pack h
theorem Hp.pushG {y : α} (h : Hp B A W (.many (ys.flatMap g) :: (g y ++ L))) : Hp B A W (.many ((ys ++ [y]).flatMap g) :: L) := by
  have e : (ys ++ [y]).flatMap g = ys.flatMap g ++ g y := by rw [List.flatMap_append, List.flatMap_cons, List.flatMap_nil, List.append_nil]
  rw [e]
  exact Hp.joins h
theorem Hp.gSl (H : Hp B A W L) (hm : Res.many (lsG E k f g v ys) ∈ L) : SlV W k v ys.length (ys.flatMap f) := SlV.of_row (H.inMany hm (List.Mem.head _))
theorem gD_mem {d0 : α} {j : Nat} (hj : j < ys.length) : ys.getD j d0 ∈ ys := by
  rw [List.getD_eq_getElem?_getD, List.getElem?_eq_getElem hj]; exact List.getElem_mem hj
theorem Hp.gIn (H : Hp B A W L) (hm : Res.many (lsG E k f g v ys) ∈ L) (d0 : α) {j : Nat} (hj : j < ys.length) {r : Res} (hr : r ∈ g (ys.getD j d0)) : r.ok W :=
  H.inMany hm (List.Mem.tail _ (List.mem_flatMap.2 ⟨_, gD_mem hj, hr⟩))
theorem Hp.gForm (H : Hp B A W L) (hm : Res.many (lsG E k f g v ys) ∈ L) : (∃ b c, v = .slice (some ⟨b, 0, none⟩) ys.length c) ∨ (v = .slice none 0 0 ∧ ys.length = 0) := by
  rcases (H.inMany hm (List.Mem.head _)).1.2 with ⟨h1, h2⟩ | ⟨g, cap, cur, h1, -⟩
  · exact .inr ⟨h1, h2⟩
  · exact .inl ⟨g, cap, h1⟩
theorem Hp.gPtr (H : Hp B A W L) {a : Option Addr} {n c : Nat} (hm : Res.many (lsG E k f g (.slice a n c) ys) ∈ L) (hn : 0 < ys.length) : ∃ b, a = some ⟨b, 0, none⟩ := by
  rcases H.gForm hm with ⟨b, c', h⟩ | ⟨h1, h2⟩
  · cases h; exact ⟨b, rfl⟩
  · omega
theorem Hp.gRd (H : Hp B A W L) {b n c : Nat} (hm : Res.many (lsG E k f g (.slice (some ⟨b, 0, none⟩) n c) ys) ∈ L) (hn : 0 < ys.length) : RdV W b 0 (ys.flatMap f) := by
  have h1 := H.gSl hm
  obtain ⟨a, c', h3, -⟩ := h1.form
  cases h3
  obtain ⟨b', off, h4, h5⟩ := h1.read hn
  cases h4
  exact h5
end
section
variable {P : Program} {N B : Nat} {E : Env} {A W : World} {ops : Array Oper} {K : Exit → Env → World → Prop} {D : World → Prop} {T : Tab} {l l' : List Res}
variable {i : Nat} {rest : List Nat} {d : Nat} {op : Op} {ty : TypeId} {pos : String} {aft : Array Edge} {g : Option (Nat × Bool)}
/-- one element of several cells pushed: the literal lies at the head -/
theorem sh_pushA (hT : TabOk P T) {α : Type} (f : α → List Value) (y : α) {ys : List α} {e : TypeId} {tt : TT} {v u : Value} {n k : Nat} {l' : Option Addr → Nat → List Res} (H : Hp B A W (.row e k u 1 (f y) :: l)) (ho : getL ops.toList i = some ⟨some d, op, ty, pos, aft, g⟩) (hg : guardE ops ⟨some d, op, ty, pos, aft, g⟩ E = some true) (hd : Nat.ble (d + 1) N = true)
    (hv : evAp T E ⟨some d, op, ty, pos, aft, g⟩ = some (e, v, u)) (ht : T.at e = some tt) (hsz : k = tt.size) (hz : Nat.beq tt.zero.cells.size tt.size = true) (hpos : Nat.ble 1 tt.size = true) (hb : Nat.ble tt.bytes 128 = true)
    (hU : ∀ a c, Upd l (.row e k v n (ys.flatMap f)) (.row e k (.slice a (n + 1) c) (n + 1) ((ys ++ [y]).flatMap f)) (l' a c)) (hnm : n ≤ 1099511627775)
    (h : ∀ a c W', Hp B A W' (l' a c) → AOps P N B ops rest K ((d, .slice a (n + 1) c) :: E) W') : AOps P N B ops (i :: rest) K E W := by
  have hs := H.row_sl (List.Mem.head _)
  have H1 := H.sub (List.sublist_cons_self _ _)
  subst hsz
  have hbt := Nat.le_of_ble_eq_true hb
  have hm : (n + 1) * tt.bytes ≤ 1099511627776 * 128 := Nat.mul_le_mul (by omega) hbt
  refine s_yields ho hg hd (yieldsH_append hT hv ht H1 (hU none 0).mem hs (Nat.eq_of_beq_eq_true hz) (Nat.le_of_ble_eq_true hpos) (by simp only [maxLen]; omega) (by omega)) fun v' W' q => ?_
  obtain ⟨a, c, rfl, q⟩ := q
  refine h a c W' (q _ ?_)
  have := hU a c
  rwa [List.flatMap_append, List.flatMap_cons, List.flatMap_nil, List.append_nil] at this
end
end Go.Proofs.Ytmplincflbhmiaa.Cn
