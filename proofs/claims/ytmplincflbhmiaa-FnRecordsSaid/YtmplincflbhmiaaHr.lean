/- Rows whose elements are of several cells; lists of whole numbers. -/
import Derived.Test.YtmplincflbhmiaaHc
namespace Go.Proofs.Ytmplincflbhmiaa.Cn
set_option linter.unusedSimpArgs false
set_option linter.unusedVariables false
open Go Go.RowKit
section flat
variable {α : Type} {f : α → List Value} {k : Nat}
theorem flat_len (hf : ∀ x, (f x).length = k) : ∀ xs : List α, (xs.flatMap f).length = xs.length * k
  | [] => by simp
  | x :: xs => by rw [List.flatMap_cons, List.length_append, hf, flat_len hf xs, List.length_cons, Nat.add_mul]; omega
theorem flat_drop (hf : ∀ x, (f x).length = k) : ∀ (xs : List α) (i : Nat), (xs.flatMap f).drop (i * k) = (xs.drop i).flatMap f
  | xs, 0 => by simp
  | [], i + 1 => by simp
  | x :: xs, i + 1 => by
    rw [List.flatMap_cons, Nat.add_mul, Nat.one_mul, Nat.add_comm (i * k) k, ← hf x, List.drop_length_add_append, List.drop_succ_cons]
    rw [hf x]; exact flat_drop hf xs i
theorem flat_take (hf : ∀ x, (f x).length = k) : ∀ (xs : List α) (i : Nat), (xs.flatMap f).take (i * k) = (xs.take i).flatMap f
  | xs, 0 => by simp
  | [], i + 1 => by simp
  | x :: xs, i + 1 => by
    rw [List.flatMap_cons, Nat.add_mul, Nat.one_mul, Nat.add_comm (i * k) k, ← hf x, List.take_length_add_append, List.take_succ_cons, List.flatMap_cons]
    rw [hf x]; rw [flat_take hf xs i]
theorem flat_sub (hf : ∀ x, (f x).length = k) {xs : List α} {i : Nat} (d0 : α) (hi : i < xs.length) : ((xs.flatMap f).drop (i * k)).take k = f (xs.getD i d0) := by
  rw [flat_drop hf, List.drop_eq_getElem_cons hi, List.flatMap_cons, ← hf xs[i], List.take_left']
  · simp [List.getD_eq_getElem?_getD, hi]
  · rfl
theorem flat_get (hf : ∀ x, (f x).length = k) {xs : List α} {i j : Nat} (d0 : α) (hi : i < xs.length) (hj : j < k) : (xs.flatMap f).getD (i * k + j) undef = (f (xs.getD i d0)).getD j undef := by
  have := flat_sub hf d0 hi
  rw [← this, List.getD_eq_getElem?_getD, List.getD_eq_getElem?_getD, List.getElem?_take, if_pos hj, List.getElem?_drop]
theorem flat_set (hf : ∀ x, (f x).length = k) {xs : List α} {i : Nat} (y : α) (hi : i < xs.length) : (xs.flatMap f).take (i * k) ++ f y ++ (xs.flatMap f).drop (i * k + (f y).length) = (xs.set i y).flatMap f := by
  rw [hf y, show i * k + k = (i + 1) * k by rw [Nat.add_mul]; omega, flat_take hf, flat_drop hf, List.set_eq_take_append_cons_drop, if_pos hi, List.flatMap_append, List.flatMap_cons, List.append_assoc]
theorem flat_split (hf : ∀ x, (f x).length = k) {xs : List α} {i : Nat} (d0 : α) (hi : i < xs.length) : xs.flatMap f = (xs.take i).flatMap f ++ (f (xs.getD i d0) ++ (xs.drop (i + 1)).flatMap f) := by
  conv => lhs; rw [← List.take_append_drop i xs, List.drop_eq_getElem_cons hi]
  rw [List.flatMap_append, List.flatMap_cons]
  simp [List.getD_eq_getElem?_getD, hi]
theorem flat_setF (hf : ∀ x, (f x).length = k) {xs : List α} {i m : Nat} {y : α} {v : Value} (d0 : α) (hi : i < xs.length) (hm : m < k) (he : (f (xs.getD i d0)).take m ++ [v] ++ (f (xs.getD i d0)).drop (m + 1) = f y) :
    (xs.flatMap f).take (i * k + m) ++ [v] ++ (xs.flatMap f).drop (i * k + m + 1) = (xs.set i y).flatMap f := by
  have hl : ((xs.take i).flatMap f).length = i * k := by rw [flat_len hf, List.length_take, Nat.min_eq_left (by omega)]
  have hF := hf (xs.getD i d0)
  rw [List.set_eq_take_append_cons_drop, if_pos hi, List.flatMap_append, List.flatMap_cons, ← he, flat_split hf d0 hi]
  generalize (xs.take i).flatMap f = X at *
  generalize (xs.drop (i + 1)).flatMap f = Z at *
  generalize f (xs.getD i d0) = F at *
  rw [← hl, List.take_length_add_append, show X.length + m + 1 = X.length + (m + 1) by omega, List.drop_length_add_append, List.take_append_of_le_length (by omega), List.drop_append_of_le_length (by omega)]
  simp
end flat
section
variable {P : Program} {N B : Nat} {E : Env} {A W : World} {ops : Array Oper} {K : Exit → Env → World → Prop} {D : World → Prop} {T : Tab} {l l' : List Res}
variable {i : Nat} {rest : List Nat} {d : Nat} {op : Op} {ty : TypeId} {pos : String} {aft : Array Edge} {g : Option (Nat × Bool)}
/-- an index that is a count -/
theorem s_indexn (hT : TabOk P T) {b off n sz j : Nat} (ho : getL ops.toList i = some ⟨some d, op, ty, pos, aft, g⟩) (hg : guardE ops ⟨some d, op, ty, pos, aft, g⟩ E = some true) (hd : Nat.ble (d + 1) N = true)
    (hv : evI T E ⟨some d, op, ty, pos, aft, g⟩ = some (b, off, n, (j : Int), sz)) (h1 : j < n) (k : AOps P N B ops rest K ((d, .pointer (some ⟨b, off + j * sz, none⟩)) :: E) W) : AOps P N B ops (i :: rest) K E W :=
  s_index hT ho hg hd hv (by omega) (by omega) k
theorem s_index1n (hT : TabOk P T) {b off n j : Nat} (ho : getL ops.toList i = some ⟨some d, op, ty, pos, aft, g⟩) (hg : guardE ops ⟨some d, op, ty, pos, aft, g⟩ E = some true) (hd : Nat.ble (d + 1) N = true)
    (hv : evI T E ⟨some d, op, ty, pos, aft, g⟩ = some (b, off, n, (j : Int), 1)) (h1 : j < n) (k : AOps P N B ops rest K ((d, .pointer (some ⟨b, off + j, none⟩)) :: E) W) : AOps P N B ops (i :: rest) K E W :=
  s_index1 hT ho hg hd hv (by omega) (by omega) k
theorem so_indexn (hT : TabOk P T) (hK : Lax K) {b off n sz j : Nat} (ho : getL ops.toList i = some ⟨some d, op, ty, pos, aft, g⟩) (hg : guardE ops ⟨some d, op, ty, pos, aft, g⟩ E = some true) (hd : Nat.ble (d + 1) N = true)
    (hv : evI T E ⟨some d, op, ty, pos, aft, g⟩ = some (b, off, n, (j : Int), sz)) (h1 : j < n) (hm : mayO ops i rest = true) (k : SO P N B ops D K rest ((d, .pointer (some ⟨b, off + j * sz, none⟩)) :: E) W) : SO P N B ops D K (i :: rest) E W :=
  so_index hT hK ho hg hd hv (by omega) (by omega) hm k
theorem so_index1n (hT : TabOk P T) (hK : Lax K) {b off n j : Nat} (ho : getL ops.toList i = some ⟨some d, op, ty, pos, aft, g⟩) (hg : guardE ops ⟨some d, op, ty, pos, aft, g⟩ E = some true) (hd : Nat.ble (d + 1) N = true)
    (hv : evI T E ⟨some d, op, ty, pos, aft, g⟩ = some (b, off, n, (j : Int), 1)) (h1 : j < n) (hm : mayO ops i rest = true) (k : SO P N B ops D K rest ((d, .pointer (some ⟨b, off + j, none⟩)) :: E) W) : SO P N B ops D K (i :: rest) E W :=
  so_index1 hT hK ho hg hd hv (by omega) (by omega) hm k
theorem q_indexn (hT : TabOk P T) {Q : Env → Prop} {b off n sz j : Nat} (ho : getL ops.toList i = some ⟨some d, op, ty, pos, aft, g⟩) (hg : guardE ops ⟨some d, op, ty, pos, aft, g⟩ E = some true) (hd : Nat.ble (d + 1) N = true)
    (hv : evI T E ⟨some d, op, ty, pos, aft, g⟩ = some (b, off, n, (j : Int), sz)) (h1 : j < n) (k : AQ P N B ops W Q rest ((d, .pointer (some ⟨b, off + j * sz, none⟩)) :: E)) : AQ P N B ops W Q (i :: rest) E :=
  q_index hT ho hg hd hv (by omega) (by omega) k
theorem q_index1n (hT : TabOk P T) {Q : Env → Prop} {b off n j : Nat} (ho : getL ops.toList i = some ⟨some d, op, ty, pos, aft, g⟩) (hg : guardE ops ⟨some d, op, ty, pos, aft, g⟩ E = some true) (hd : Nat.ble (d + 1) N = true)
    (hv : evI T E ⟨some d, op, ty, pos, aft, g⟩ = some (b, off, n, (j : Int), 1)) (h1 : j < n) (k : AQ P N B ops W Q rest ((d, .pointer (some ⟨b, off + j, none⟩)) :: E)) : AQ P N B ops W Q (i :: rest) E :=
  q_index1 hT ho hg hd hv (by omega) (by omega) k
/-- elements read: of one cell -/
theorem q_readT (hT : TabOk P T) {Q : Env → Prop} {α : Type} {f : α → Value} (d0 : α) {ys : List α} {b k j off : Nat} (ho : getL ops.toList i = some ⟨some d, op, ty, pos, aft, g⟩) (hg : guardE ops ⟨some d, op, ty, pos, aft, g⟩ E = some true) (hd : Nat.ble (d + 1) N = true)
    (hv : evLd T E ⟨some d, op, ty, pos, aft, g⟩ = some ⟨b, k, none⟩) (hr : RdV W b off (ys.map f)) (hk : k = off + j) (hi : j < ys.length) (h : AQ P N B ops W Q rest ((d, f (ys.getD j d0)) :: E)) : AQ P N B ops W Q (i :: rest) E :=
  q_gives ho hg hd (gh_readT hT hv hr hk hi) h
/-- an element of several cells -/
theorem gh_readA (hT : TabOk P T) {o : Oper} {α : Type} {f : α → List Value} {n : Nat} (hf : ∀ x, (f x).length = n) (d0 : α) {ys : List α} {b k j off : Nat} (hv : evLa T E o = some (b, k, n)) (hr : RdV W b off (ys.flatMap f)) (hk : k = off + j * n) (hi : j < ys.length) : Gives P N B o E W (.agg (f (ys.getD j d0)).toArray) W := by
  have hl := flat_len hf ys
  have hm : (j + 1) * n ≤ ys.length * n := Nat.mul_le_mul_right _ hi
  rw [Nat.add_mul, Nat.one_mul] at hm
  exact gh_reada hT hv hr hk (by omega) (flat_sub hf d0 hi)
theorem gh_readF (hT : TabOk P T) {o : Oper} {α : Type} {f : α → List Value} {n : Nat} (hf : ∀ x, (f x).length = n) (d0 : α) {ys : List α} {b k j m off : Nat} {v : Value} (hv : evLd T E o = some ⟨b, k, none⟩) (hr : RdV W b off (ys.flatMap f)) (hk : k = off + j * n + m) (hi : j < ys.length) (hm : Nat.ble (m + 1) n = true) (he : (f (ys.getD j d0)).getD m undef = v) : Gives P N B o E W v W := by
  have hm' : m < n := Nat.le_of_ble_eq_true hm
  have hl := flat_len hf ys
  have hmm : (j + 1) * n ≤ ys.length * n := Nat.mul_le_mul_right _ hi
  rw [Nat.add_mul, Nat.one_mul] at hmm
  have hlt : j * n + m < (ys.flatMap f).length := by omega
  have hget := (flat_get hf d0 hi hm').trans he
  obtain ⟨u, h1, h2, h3⟩ := hr _ hlt
  refine gh_read hT hv hr (by omega) hlt hget ?_
  rw [← hget, ← h2]; exact cv_cl1 h3
theorem sh_readA (hT : TabOk P T) {α : Type} {f : α → List Value} {n : Nat} (hf : ∀ x, (f x).length = n) (d0 : α) {ys : List α} {b k j off : Nat} (ho : getL ops.toList i = some ⟨some d, op, ty, pos, aft, g⟩) (hg : guardE ops ⟨some d, op, ty, pos, aft, g⟩ E = some true) (hd : Nat.ble (d + 1) N = true)
    (hv : evLa T E ⟨some d, op, ty, pos, aft, g⟩ = some (b, k, n)) (hr : RdV W b off (ys.flatMap f)) (hk : k = off + j * n) (hi : j < ys.length) (h : AOps P N B ops rest K ((d, .agg (f (ys.getD j d0)).toArray) :: E) W) : AOps P N B ops (i :: rest) K E W :=
  s_givesv ho hg hd (gh_readA hT hf d0 hv hr hk hi) h
theorem q_readA (hT : TabOk P T) {Q : Env → Prop} {α : Type} {f : α → List Value} {n : Nat} (hf : ∀ x, (f x).length = n) (d0 : α) {ys : List α} {b k j off : Nat} (ho : getL ops.toList i = some ⟨some d, op, ty, pos, aft, g⟩) (hg : guardE ops ⟨some d, op, ty, pos, aft, g⟩ E = some true) (hd : Nat.ble (d + 1) N = true)
    (hv : evLa T E ⟨some d, op, ty, pos, aft, g⟩ = some (b, k, n)) (hr : RdV W b off (ys.flatMap f)) (hk : k = off + j * n) (hi : j < ys.length) (h : AQ P N B ops W Q rest ((d, .agg (f (ys.getD j d0)).toArray) :: E)) : AQ P N B ops W Q (i :: rest) E :=
  q_gives ho hg hd (gh_readA hT hf d0 hv hr hk hi) h
theorem sh_readF (hT : TabOk P T) {α : Type} {f : α → List Value} {n : Nat} (hf : ∀ x, (f x).length = n) (d0 : α) {ys : List α} {b k j m off : Nat} {v : Value} (ho : getL ops.toList i = some ⟨some d, op, ty, pos, aft, g⟩) (hg : guardE ops ⟨some d, op, ty, pos, aft, g⟩ E = some true) (hd : Nat.ble (d + 1) N = true)
    (hv : evLd T E ⟨some d, op, ty, pos, aft, g⟩ = some ⟨b, k, none⟩) (hr : RdV W b off (ys.flatMap f)) (hk : k = off + j * n + m) (hi : j < ys.length) (hm : Nat.ble (m + 1) n = true) (he : (f (ys.getD j d0)).getD m undef = v) (h : AOps P N B ops rest K ((d, v) :: E) W) : AOps P N B ops (i :: rest) K E W :=
  s_givesv ho hg hd (gh_readF hT hf d0 hv hr hk hi hm he) h
/-- an element of several cells written -/
theorem sh_storeA (hT : TabOk P T) {α : Type} {f : α → List Value} {n : Nat} (hf : ∀ x, (f x).length = n) (y : α) {ys : List α} {b k j m cp : Nat} {e : TypeId} {v : Value} (H : Hp B A W l) (ho : getL ops.toList i = some ⟨none, op, ty, pos, aft, g⟩) (hg : guardE ops ⟨none, op, ty, pos, aft, g⟩ E = some true) (hv : evSt T E ⟨none, op, ty, pos, aft, g⟩ = some (b, k, n, v))
    (hc : cellsO v = some (f y)) (hn : Nat.beq (f y).length n = true) (h1 : allOne (f y) = true) (hk : k = j * n) (hU : Upd l (.row e n (.slice (some ⟨b, 0, none⟩) m cp) m (ys.flatMap f)) (.row e n (.slice (some ⟨b, 0, none⟩) m cp) m ((ys.set j y).flatMap f)) l') (hl : j < ys.length)
    (h : ∀ W', Hp B A W' l' → AOps P N B ops rest K E W') : AOps P N B ops (i :: rest) K E W := by
  subst hk
  have hll := flat_len hf ys
  have hm : (j + 1) * n ≤ ys.length * n := Nat.mul_le_mul_right _ hl
  rw [Nat.add_mul, Nat.one_mul] at hm
  exact sh_storeRow hT H ho hg hv hc hn h1 hU (by omega) (flat_set hf y hl) h
/-- a part of an element written -/
theorem sh_storeF (hT : TabOk P T) {α : Type} {f : α → List Value} {n : Nat} (hf : ∀ x, (f x).length = n) (d0 y : α) {ys : List α} {b k j q m cp : Nat} {e : TypeId} {v : Value} (H : Hp B A W l) (ho : getL ops.toList i = some ⟨none, op, ty, pos, aft, g⟩) (hg : guardE ops ⟨none, op, ty, pos, aft, g⟩ E = some true) (hv : evSt T E ⟨none, op, ty, pos, aft, g⟩ = some (b, k, 1, v))
    (hc : cellsO v = some [v]) (h1 : allOne [v] = true) (hk : k = j * n + q) (hq : Nat.ble (q + 1) n = true) (he : setCells (f (ys.getD j d0)) q [v] = some (f y)) (hU : Upd l (.row e n (.slice (some ⟨b, 0, none⟩) m cp) m (ys.flatMap f)) (.row e n (.slice (some ⟨b, 0, none⟩) m cp) m ((ys.set j y).flatMap f)) l') (hl : j < ys.length)
    (h : ∀ W', Hp B A W' l' → AOps P N B ops rest K E W') : AOps P N B ops (i :: rest) K E W := by
  subst hk
  have hll := flat_len hf ys
  have hq' : q < n := Nat.le_of_ble_eq_true hq
  have hm : (j + 1) * n ≤ ys.length * n := Nat.mul_le_mul_right _ hl
  rw [Nat.add_mul, Nat.one_mul] at hm
  exact sh_storeRow hT H ho hg hv hc rfl h1 hU (by omega) (flat_setF hf d0 hl hq' (setCells_spec _ _ _ _ he).2) h
end
theorem upd_mid {r r' : Res} : ∀ (a b : List Res), Upd (a ++ r :: b) r r' (a ++ r' :: b)
  | [], _ => .here
  | _ :: a, b => .there (upd_mid a b)
/-! ### whole numbers -/
abbrev iC (xs : List Int) : List Value := xs.map (.int .i64)
def SlI (W : World) (v : Value) (xs : List Int) : Prop := SlV W 1 v xs.length (iC xs)
section
variable {B : Nat} {A W W' : World} {l l' : List Res}
theorem SlI.below {v : Value} {xs : List Int} (h : SlI A v xs) (hb : Below A.heap.size A W) : SlI W v xs := SlV.below h hb
theorem SlI.form {v : Value} {xs : List Int} (h : SlI W v xs) : ∃ a c, v = .slice a xs.length c ∧ xs.length ≤ c := SlV.form h
theorem SlI.read {a : Option Addr} {c : Nat} {xs : List Int} (h : SlI W (.slice a xs.length c) xs) (hn : 0 < xs.length) : ∃ b off, a = some ⟨b, off, none⟩ ∧ RdV W b off (iC xs) := SlV.read h hn
theorem Hp.sli (H : Hp B A W l) {e : TypeId} {v : Value} {xs : List Int} {n : Nat} (hm : Res.row e 1 v n (iC xs) ∈ l) : SlI W v xs := by
  have h := H.row_sl hm
  have hn : n = xs.length := by have := H.row_len hm; simp at this; omega
  subst hn; exact h
theorem Hp.sliA (H : Hp B A W l) {v : Value} {xs : List Int} (h : SlI A v xs) : SlI W v xs := h.below H.below
end
end Go.Proofs.Ytmplincflbhmiaa.Cn
