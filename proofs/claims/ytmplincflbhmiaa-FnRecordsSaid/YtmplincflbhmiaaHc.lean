/- Steps over a heap told by its parts: at operations written out. -/
import Derived.Test.YtmplincflbhmiaaHb
namespace Go.Proofs.Ytmplincflbhmiaa.Cn
set_option linter.unusedSimpArgs false
set_option linter.unusedVariables false
open Go Go.RowKit
/-- conditions, said plainly -/
theorem decs : (∀ b : Bool, (!b) = true ↔ b = false) ∧ (∀ b : Bool, (!b) = false ↔ b = true) ∧ (∀ a b : Bool, (a && b) = true ↔ a = true ∧ b = true) ∧ (∀ a b : Bool, (a || b) = true ↔ a = true ∨ b = true) ∧ (∀ a b : Bool, (a || b) = false ↔ a = false ∧ b = false) ∧
    (!true) = false ∧ (!false) = true ∧ (∀ (p : Prop) [Decidable p], decide p = true ↔ p) ∧ (∀ (p : Prop) [Decidable p], decide p = false ↔ ¬ p) ∧ (∀ a b : Bool, (a && b) = false ↔ (a = true → b = false)) ∧
    (∀ (α : Type) [BEq α] [LawfulBEq α] (a b : α), (a != b) = true ↔ ¬ a = b) ∧ (∀ (α : Type) [BEq α] [LawfulBEq α] (a b : α), (a == b) = true ↔ a = b) ∧ (∀ (α : Type) [BEq α] [LawfulBEq α] (a b : α), (a == b) = false ↔ ¬ a = b) ∧ (∀ (α : Type) [BEq α] [LawfulBEq α] (a b : α), (a != b) = false ↔ a = b) ∧ (∀ (α : Type) [BEq α] [LawfulBEq α] (a : α), (a != a) = false) ∧
    (∀ (α : Type) (a : α), (a = a) ↔ True) ∧ ((true = false) ↔ False) ∧ ((false = true) ↔ False) ∧ ((¬ True) ↔ False) :=
  ⟨by decide, by decide, by decide, by decide, by decide, rfl, rfl, fun p _ => decide_eq_true_iff, fun p _ => decide_eq_false_iff_not, by decide, fun _ _ _ _ _ => bne_iff_ne, fun _ _ _ _ _ => beq_iff_eq, fun _ _ _ _ _ => beq_eq_false_iff_ne, fun _ _ _ _ _ => bne_eq_false_iff_eq, fun _ _ _ a => bne_self_eq_false a, fun _ _ => ⟨fun _ => trivial, fun _ => rfl⟩, by decide, by decide, by decide⟩
/-- a condition said plainly, found by its form -/
class DecT (h : Prop) (p : outParam Prop) : Prop where
  imp : h → p
instance decTt {p : Prop} [Decidable p] : DecT (decide p = true) p := ⟨of_decide_eq_true⟩
instance decTf {p : Prop} [Decidable p] : DecT (decide p = false) (¬ p) := ⟨of_decide_eq_false⟩
instance decTb {α : Type} [BEq α] [LawfulBEq α] {a b : α} : DecT ((a == b) = true) (a = b) := ⟨eq_of_beq⟩
/-! ### lists of cells, reckoned -/
def cellsO : Value → Option (List Value)
  | .agg cs => match cs with
    | ⟨l⟩ => some l
  | .tuple _ => none
  | v => some [v]
theorem cellsO_spec {v : Value} {l : List Value} (h : cellsO v = some l) : v.cells.toList = l ∧ plain v = some v := by
  cases v <;> simp [cellsO] at h
  case agg cs => subst h; exact ⟨rfl, rfl⟩
  all_goals subst h; exact ⟨rfl, rfl⟩
def setCells : List Value → Nat → List Value → Option (List Value)
  | c, 0, [] => some c
  | [], _, _ => none
  | _ :: c, 0, y :: ys => match setCells c 0 ys with
    | some r => some (y :: r)
    | none => none
  | x :: c, n + 1, ys => match setCells c n ys with
    | some r => some (x :: r)
    | none => none
theorem setCells_spec : ∀ (c : List Value) (n : Nat) (ys c' : List Value), setCells c n ys = some c' → n + ys.length ≤ c.length ∧ c.take n ++ ys ++ c.drop (n + ys.length) = c'
  | c, 0, [], c', h => by cases c <;> (cases h; exact ⟨by simp, by simp⟩)
  | [], 0, _ :: _, _, h => by cases h
  | [], _ + 1, _, _, h => by cases h
  | x :: c, 0, y :: ys, c', h => by
    simp only [setCells] at h
    split at h
    · rename_i r hr
      cases h
      obtain ⟨h1, h2⟩ := setCells_spec c 0 ys r hr
      refine ⟨by simp at h1 ⊢; omega, ?_⟩
      rw [← h2]
      simp
    · cases h
  | x :: c, n + 1, ys, c', h => by
    simp only [setCells] at h
    split at h
    · rename_i r hr
      cases h
      obtain ⟨h1, h2⟩ := setCells_spec c n ys r hr
      refine ⟨by simp at h1 ⊢; omega, ?_⟩
      rw [← h2, show n + 1 + ys.length = (n + ys.length) + 1 by omega]
      simp
    · cases h
def subCells : List Value → Nat → Nat → Option (List Value)
  | _, 0, 0 => some []
  | [], _, _ => none
  | x :: c, 0, n + 1 => match subCells c 0 n with
    | some r => some (x :: r)
    | none => none
  | _ :: c, k + 1, n => subCells c k n
theorem subCells_spec : ∀ (c : List Value) (k n : Nat) (c' : List Value), subCells c k n = some c' → (c.drop k).take n = c' ∧ c'.length = n
  | c, 0, 0, c', h => by cases c <;> (cases h; exact ⟨by simp, rfl⟩)
  | [], 0, _ + 1, _, h => by cases h
  | [], _ + 1, _, _, h => by cases h
  | x :: c, 0, n + 1, c', h => by
    simp only [subCells] at h
    split at h
    · rename_i r hr
      cases h
      obtain ⟨h1, h2⟩ := subCells_spec c 0 n r hr
      refine ⟨by rw [← h1]; simp, by simp [h2]⟩
    · cases h
  | x :: c, k + 1, n, c', h => by
    have h' : subCells c k n = some c' := by cases n <;> exact h
    obtain ⟨h1, h2⟩ := subCells_spec c k n c' h'
    exact ⟨by rw [← h1]; simp, h2⟩
/-- what a zero value's cells are -/
def zeroL : List Value → Option (List Value)
  | [] => some []
  | .float k b :: r => match b with
    | 0 => match zeroL r with
      | some r' => some (.float k 0 :: r')
      | none => none
    | _ + 1 => none
  | .int k n :: r => match zeroL r with
    | some r' => some (.int k n :: r')
    | none => none
  | .bool b :: r => match zeroL r with
    | some r' => some (.bool b :: r')
    | none => none
  | .string s :: r => match zeroL r with
    | some r' => some (.string s :: r')
    | none => none
  | .slice a n c :: r => match zeroL r with
    | some r' => some (.slice a n c :: r')
    | none => none
  | .pointer a :: r => match zeroL r with
    | some r' => some (.pointer a :: r')
    | none => none
  | _ :: _ => none
theorem cb_zero' (k : FloatKind) : cb k 0 = 0 := cb_num (by cases k <;> decide)
theorem zeroL_spec : ∀ (l r : List Value), zeroL l = some r → l.map cl = r
  | [], _, h => by cases h; rfl
  | v :: l, r, h => by
    cases v <;> simp only [zeroL] at h
    case float k b =>
      cases b with
      | zero =>
        simp only at h
        split at h
        · rename_i r' hr
          cases h
          rw [List.map_cons, zeroL_spec l r' hr]; simp [cl, cb_zero']
        · cases h
      | succ b => cases h
    all_goals
      first
      | cases h
        done
      | split at h
        · rename_i r' hr
          cases h
          rw [List.map_cons, zeroL_spec l r' hr]; rfl
        · cases h
def zeroO (v : Value) : Option (List Value) := match cellsO v with
  | some l => zeroL l
  | none => none
theorem zeroO_spec {v : Value} {c : List Value} (h : zeroO v = some c) : (zerosOf v).toList = c := by
  unfold zeroO at h
  split at h
  · rename_i l hl
    have := zeroL_spec _ _ h
    simp only [zerosOf, Array.toList_map, (cellsO_spec hl).1]
    exact this
  · cases h
def allOne : List Value → Bool
  | [] => true
  | v :: r => match v.oneCell' with
    | true => allOne r
    | false => false
theorem allOne_spec : ∀ (l : List Value), allOne l = true → l.all (·.oneCell') = true
  | [], _ => rfl
  | v :: r, h => by
    unfold allOne at h
    cases hv : v.oneCell' with
    | true => rw [hv] at h; simp only [List.all_cons, hv, Bool.true_and]; exact allOne_spec r h
    | false => rw [hv] at h; cases h
def conc : List Value → List Value → Option (List Value)
  | [], r => some r
  | x :: l, r => match conc l r with
    | some q => some (x :: q)
    | none => none
theorem conc_spec : ∀ (l r q : List Value), conc l r = some q → l ++ r = q
  | [], r, q, h => by cases h; rfl
  | x :: l, r, q, h => by
    simp only [conc] at h
    split at h
    · rename_i q' hq
      cases h
      rw [List.cons_append, conc_spec l r q' hq]
    · cases h
/-- a literal's cells: elements of one size -/
def litL (sz : Nat) : List Value → Option (List Value)
  | [] => some []
  | v :: r => match cellsO v with
    | some l => match Nat.beq l.length sz with
      | true => match litL sz r with
        | some r' => conc l r'
        | none => none
      | false => none
    | none => none
theorem litL_spec {sz : Nat} : ∀ (vs c : List Value), litL sz vs = some c → vs.flatMap (·.cells.toList) = c ∧ (vs.all fun v => Nat.beq v.cells.size sz) = true
  | [], _, h => by cases h; exact ⟨rfl, rfl⟩
  | v :: r, c, h => by
    simp only [litL] at h
    split at h
    · rename_i l hl
      split at h
      · rename_i hb
        split at h
        · rename_i r' hr
          obtain ⟨h1, h2⟩ := litL_spec r r' hr
          have h3 := (cellsO_spec hl).1
          refine ⟨by rw [List.flatMap_cons, h1, h3]; exact conc_spec _ _ _ h, ?_⟩
          rw [List.all_cons, h2, ← Array.length_toList, h3, hb]; rfl
        · cases h
      · cases h
    · cases h
def fillO (place : Nat → Option (Nat × Nat)) : List Value → List (Nat × Value) → Option (List Value)
  | cells, [] => some cells
  | cells, (i, v) :: r => match place i with
    | some (off, size) => match cellsO v with
      | some vs => match Nat.beq vs.length size with
        | true => match setCells cells off vs with
          | some c => fillO place c r
          | none => none
        | false => none
      | none => none
    | none => none
theorem fillO_spec (place : Nat → Option (Nat × Nat)) : ∀ (parts : List (Nat × Value)) (cells c : List Value), fillO place cells parts = some c → fillL place cells parts = some c
  | [], _, _, h => h
  | (i, v) :: r, cells, c, h => by
    simp only [fillO] at h
    simp only [fillL]
    split at h
    · rename_i off size hp
      split at h
      · rename_i vs hvs
        split at h
        · rename_i hb
          split at h
          · rename_i c1 hc1
            have h1 := (cellsO_spec hvs).1
            have h2 := Nat.eq_of_beq_eq_true hb
            obtain ⟨h3, h4⟩ := setCells_spec _ _ _ _ hc1
            have h5 : Nat.beq v.cells.size size = true := by rw [← Array.length_toList, h1, hb]
            have h6 : Nat.ble (off + size) cells.length = true := Nat.ble_eq_true_of_le (by omega)
            rw [hp]
            simp only [h5, h6, Bool.and_self, h1, h4]
            exact fillO_spec place r c1 c h
          · cases h
        · cases h
      · cases h
    · cases h
def litN : List Value → Option Nat
  | [] => some 0
  | [_] => some 1
  | [_, _] => some 2
  | [_, _, _] => some 3
  | [_, _, _, _] => some 4
  | [_, _, _, _, _] => some 5
  | [_, _, _, _, _, _] => some 6
  | [_, _, _, _, _, _, _] => some 7
  | [_, _, _, _, _, _, _, _] => some 8
  | [_, _, _, _, _, _, _, _, _] => some 9
  | [_, _, _, _, _, _, _, _, _, _] => some 10
  | [_, _, _, _, _, _, _, _, _, _, _] => some 11
  | [_, _, _, _, _, _, _, _, _, _, _, _] => some 12
  | _ => none
theorem litN_spec {vs : List Value} {m : Nat} (h : litN vs = some m) : vs.length = m := by
  unfold litN at h
  split at h <;> first | (cases h; rfl) | cases h
theorem cv_cl1 {u : Value} (h : u.oneCell' = true) : cv (cl u) = cl u := by
  cases u <;> simp [Value.oneCell'] at h <;> simp [cl, cv, c1, cb_cb]
section
variable {P : Program} {N B : Nat} {E : Env} {A W : World} {ops : Array Oper} {K : Exit → Env → World → Prop} {D : World → Prop} {T : Tab} {l l' : List Res}
variable {i : Nat} {rest : List Nat} {d : Nat} {op : Op} {ty : TypeId} {pos : String} {aft : Array Edge} {g : Option (Nat × Bool)}
theorem s_yields {R : Value → World → Prop} (ho : getL ops.toList i = some ⟨some d, op, ty, pos, aft, g⟩) (hg : guardE ops ⟨some d, op, ty, pos, aft, g⟩ E = some true) (hd : Nat.ble (d + 1) N = true)
    (hy : Yields P N B ⟨some d, op, ty, pos, aft, g⟩ E W R) (k : ∀ v W', R v W' → AOps P N B ops rest K ((d, v) :: E) W') : AOps P N B ops (i :: rest) K E W := aops_yields (getL_ok ho) hg hd hy k
theorem s_givesv {v : Value} (ho : getL ops.toList i = some ⟨some d, op, ty, pos, aft, g⟩) (hg : guardE ops ⟨some d, op, ty, pos, aft, g⟩ E = some true) (hd : Nat.ble (d + 1) N = true)
    (hy : Gives P N B ⟨some d, op, ty, pos, aft, g⟩ E W v W) (k : AOps P N B ops rest K ((d, v) :: E) W) : AOps P N B ops (i :: rest) K E W := aops_gives (getL_ok ho) hg hd hy k
theorem s_skipH {Q : World → Prop} (ho : getL ops.toList i = some ⟨none, op, ty, pos, aft, g⟩) (hg : guardE ops ⟨none, op, ty, pos, aft, g⟩ E = some true)
    (hy : ∀ a, EnvR E N a → ∃ W', (∀ a w, EnvR E N a → cw B w = W → B ≤ w.heap.size → ∃ w', (execOp a.eval ⟨none, op, ty, pos, aft, g⟩).run P w = .ok .skip w' ∧ B ≤ w'.heap.size ∧ cw B w' = W') ∧ Q W')
    (k : ∀ W', Q W' → AOps P N B ops rest K E W') : AOps P N B ops (i :: rest) K E W := by
  refine aops_intro fun a w ha hw hB => ?_
  obtain ⟨W', h1, h2⟩ := hy a ha
  exact aops_elim (aops_skips (getL_ok ho) hg rfl h1 (k _ h2)) a w ha hw hB
/-! ### the steps -/
theorem sh_box {e : TypeId} {x : Operand} {v : Value} {c : List Value} (H : Hp B A W l) (ho : getL ops.toList i = some ⟨some d, op, ty, pos, aft, g⟩) (hop : op = .box e x) (hg : guardE ops ⟨some d, op, ty, pos, aft, g⟩ E = some true) (hd : Nat.ble (d + 1) N = true) (hx : ev E x = some v) (hl : cellsO v = some c)
    (k : ∀ b W', Hp B A W' (.blk b c e :: l) → AOps P N B ops rest K ((d, .pointer (some ⟨b, 0, none⟩)) :: E) W') : AOps P N B ops (i :: rest) K E W :=
  s_yields ho hg hd (yh_box H hop hx (cellsO_spec hl).2 (cellsO_spec hl).1) fun v' W' h => by
    obtain ⟨b, rfl, h⟩ := h
    exact k b W' h
theorem sh_alloc (hT : TabOk P T) {e : TypeId} {tt : TT} {c : List Value} (H : Hp B A W l) (ho : getL ops.toList i = some ⟨some d, op, ty, pos, aft, g⟩) (hop : op = .alloc e) (hg : guardE ops ⟨some d, op, ty, pos, aft, g⟩ E = some true) (hd : Nat.ble (d + 1) N = true) (ht : T.at e = some tt) (hl : zeroO tt.zero = some c)
    (k : ∀ b W', Hp B A W' (.blk b c e :: l) → AOps P N B ops rest K ((d, .pointer (some ⟨b, 0, none⟩)) :: E) W') : AOps P N B ops (i :: rest) K E W :=
  s_yields ho hg hd (yh_alloc hT H hop ht (zeroO_spec hl)) fun v' W' h => by
    obtain ⟨b, rfl, h⟩ := h
    exact k b W' h
theorem sh_lit (hT : TabOk P T) {e : TypeId} {tt : TT} {vs c : List Value} {m : Nat} (H : Hp B A W l) (ho : getL ops.toList i = some ⟨some d, op, ty, pos, aft, g⟩) (hg : guardE ops ⟨some d, op, ty, pos, aft, g⟩ E = some true) (hd : Nat.ble (d + 1) N = true)
    (hv : evBs T E ⟨some d, op, ty, pos, aft, g⟩ = some (e, vs)) (ht : T.at e = some tt) (hpos : Nat.ble 1 tt.size = true) (hz : Nat.beq tt.zero.cells.size 0 = false) (hm : litN vs = some m) (hlen : Nat.ble (m * tt.size) 16777216 = true) (hc : litL tt.size vs = some c) (h1 : allOne c = true)
    (k : ∀ b W', Hp B A W' (.row e tt.size (.slice (some ⟨b, 0, none⟩) m m) m c :: l) → AOps P N B ops rest K ((d, .slice (some ⟨b, 0, none⟩) m m) :: E) W') : AOps P N B ops (i :: rest) K E W :=
  s_yields ho hg hd (yh_lit hT H hv ht (litN_spec hm) (litL_spec _ _ hc).2 hpos hz hlen (litL_spec _ _ hc).1 (allOne_spec _ h1)) fun v' W' h => by
    obtain ⟨b, rfl, h⟩ := h
    exact k b W' h
theorem sh_make (hT : TabOk P T) {e : TypeId} {tt : TT} {n m : Int} {z : Value} (H : Hp B A W l) (ho : getL ops.toList i = some ⟨some d, op, ty, pos, aft, g⟩) (hg : guardE ops ⟨some d, op, ty, pos, aft, g⟩ E = some true) (hd : Nat.ble (d + 1) N = true)
    (hv : evMk T E ⟨some d, op, ty, pos, aft, g⟩ = some (e, n, m)) (ht : T.at e = some tt) (hz : zeroO tt.zero = some (List.replicate tt.size z)) (hz1 : z.oneCell' = true) (hs0 : Nat.beq tt.zero.cells.size tt.size = true) (hpos : Nat.ble 1 tt.size = true) (h0 : 0 ≤ n) (h1 : m = n) (h3 : (tt.bytes : Int) * m ≤ 1099511627776) (h4 : m ≤ 1099511627776)
    (k : ∀ b W', Hp B A W' (.row e tt.size (.slice (some ⟨b, 0, none⟩) n.toNat n.toNat) n.toNat (List.replicate (n.toNat * tt.size) z) :: l) → AOps P N B ops rest K ((d, .slice (some ⟨b, 0, none⟩) n.toNat n.toNat) :: E) W') : AOps P N B ops (i :: rest) K E W := by
  have hzz := zeroO_spec hz
  have hp := Nat.le_of_ble_eq_true hpos
  have hmem : ∀ y ∈ (zerosOf tt.zero).toList, y = z := fun y hy => by rw [hzz] at hy; exact List.eq_of_mem_replicate hy
  have hzl : cl z = z := by
    have : z ∈ (zerosOf tt.zero).toList := by rw [hzz]; exact List.mem_replicate.2 ⟨by omega, rfl⟩
    exact can_zeros _ z this
  refine s_yields ho hg hd (yh_make hT H hv ht hmem hz1 hzl (Nat.eq_of_beq_eq_true hs0) hp h0 h1 (by omega) h4) fun v' W' h => ?_
  obtain ⟨b, rfl, h⟩ := h
  exact k b W' h
theorem sh_load (hT : TabOk P T) {b j : Nat} {c : List Value} {e : TypeId} {v : Value} (H : Hp B A W l) (ho : getL ops.toList i = some ⟨some d, op, ty, pos, aft, g⟩) (hg : guardE ops ⟨some d, op, ty, pos, aft, g⟩ E = some true) (hd : Nat.ble (d + 1) N = true)
    (hv : evLd T E ⟨some d, op, ty, pos, aft, g⟩ = some ⟨b, j, none⟩) (hm : Res.blk b c e ∈ l) (hj : subCells c j 1 = some [v]) (hp : cv v = v) (k : AOps P N B ops rest K ((d, v) :: E) W) : AOps P N B ops (i :: rest) K E W :=
  s_givesv ho hg hd (gh_load hT hv (H.ok _ hm) (by
    have h := (subCells_spec _ _ _ _ hj).1
    have h2 := congrArg (fun l => l[0]?) h
    simpa [List.getElem?_take, List.getElem?_drop] using h2) hp) k
theorem sh_loada (hT : TabOk P T) {b off n : Nat} {c c' : List Value} {e : TypeId} (H : Hp B A W l) (ho : getL ops.toList i = some ⟨some d, op, ty, pos, aft, g⟩) (hg : guardE ops ⟨some d, op, ty, pos, aft, g⟩ E = some true) (hd : Nat.ble (d + 1) N = true)
    (hv : evLa T E ⟨some d, op, ty, pos, aft, g⟩ = some (b, off, n)) (hm : Res.blk b c e ∈ l) (hj : subCells c off n = some c') (k : AOps P N B ops rest K ((d, .agg c'.toArray) :: E) W) : AOps P N B ops (i :: rest) K E W :=
  s_givesv ho hg hd (gh_loada hT hv (H.ok _ hm) (subCells_spec _ _ _ _ hj).1 (by rw [(subCells_spec _ _ _ _ hj).2]; exact Nat.beq_refl n)) k
theorem gh_readT (hT : TabOk P T) {o : Oper} {α : Type} {f : α → Value} {d0 : α} {ys : List α} {b k j off : Nat} (hv : evLd T E o = some ⟨b, k, none⟩) (hr : RdV W b off (ys.map f)) (hk : k = off + j) (hi : j < ys.length) : Gives P N B o E W (f (ys.getD j d0)) W := by
  have hi' : j < (ys.map f).length := by simpa using hi
  have hy : (ys.map f).getD j undef = f (ys.getD j d0) := by simp [List.getD_eq_getElem?_getD, hi]
  obtain ⟨u, h1, h2, h3⟩ := hr j hi'
  refine gh_read hT hv hr hk hi' hy ?_
  rw [← hy, ← h2]; exact cv_cl1 h3
theorem sh_readT (hT : TabOk P T) {α : Type} {f : α → Value} (d0 : α) {ys : List α} {b k j off : Nat} (ho : getL ops.toList i = some ⟨some d, op, ty, pos, aft, g⟩) (hg : guardE ops ⟨some d, op, ty, pos, aft, g⟩ E = some true) (hd : Nat.ble (d + 1) N = true)
    (hv : evLd T E ⟨some d, op, ty, pos, aft, g⟩ = some ⟨b, k, none⟩) (hr : RdV W b off (ys.map f)) (hk : k = off + j) (hi : j < ys.length) (h : AOps P N B ops rest K ((d, f (ys.getD j d0)) :: E) W) : AOps P N B ops (i :: rest) K E W :=
  s_givesv ho hg hd (gh_readT hT hv hr hk hi) h
theorem Hp.rowRd (H : Hp B A W l) {e : TypeId} {sz n c b : Nat} {xs : List Value} (hm : Res.row e sz (.slice (some ⟨b, 0, none⟩) n c) n xs ∈ l) : RdV W b 0 xs := by
  rcases (H.row_sl hm).2 with ⟨h0, -⟩ | ⟨b', off, c', h, -, hr⟩
  · have hl := H.row_len hm
    subst h0
    have hx : xs = [] := List.eq_nil_of_length_eq_zero (by simpa using hl)
    subst hx
    intro i hi
    simp at hi
  · cases h; exact hr
theorem sh_store (hT : TabOk P T) {b off n : Nat} {v : Value} {c c' vs : List Value} {e : TypeId} (H : Hp B A W l) (ho : getL ops.toList i = some ⟨none, op, ty, pos, aft, g⟩) (hg : guardE ops ⟨none, op, ty, pos, aft, g⟩ E = some true) (hv : evSt T E ⟨none, op, ty, pos, aft, g⟩ = some (b, off, n, v))
    (hc : cellsO v = some vs) (hn : Nat.beq vs.length n = true) (h1 : allOne vs = true) (hU : Upd l (.blk b c e) (.blk b c' e) l') (he : setCells c off vs = some c')
    (k : ∀ W', Hp B A W' l' → AOps P N B ops rest K E W') : AOps P N B ops (i :: rest) K E W := by
  obtain ⟨h2, h3⟩ := cellsO_spec hc
  obtain ⟨h4, h5⟩ := setCells_spec _ _ _ _ he
  have h6 := Nat.eq_of_beq_eq_true hn
  subst h2
  exact s_skipH ho hg (fun a ha => kh_store hT H hv h3 (by rw [← Array.length_toList]; exact h6) (allOne_spec _ h1) (evSt_can ha hv) hU (by omega) h5) k
theorem sh_storeRow (hT : TabOk P T) {b off n sz m cp : Nat} {v : Value} {vs xs xs' : List Value} {e : TypeId} (H : Hp B A W l) (ho : getL ops.toList i = some ⟨none, op, ty, pos, aft, g⟩) (hg : guardE ops ⟨none, op, ty, pos, aft, g⟩ E = some true) (hv : evSt T E ⟨none, op, ty, pos, aft, g⟩ = some (b, off, n, v))
    (hc : cellsO v = some vs) (hn : Nat.beq vs.length n = true) (h1 : allOne vs = true) (hU : Upd l (.row e sz (.slice (some ⟨b, 0, none⟩) m cp) m xs) (.row e sz (.slice (some ⟨b, 0, none⟩) m cp) m xs') l') (hl : off + n ≤ xs.length) (he : xs.take off ++ vs ++ xs.drop (off + vs.length) = xs')
    (k : ∀ W', Hp B A W' l' → AOps P N B ops rest K E W') : AOps P N B ops (i :: rest) K E W := by
  obtain ⟨h2, h3⟩ := cellsO_spec hc
  have h6 := Nat.eq_of_beq_eq_true hn
  subst h2
  exact s_skipH ho hg (fun a ha => kh_storeRow hT H hv h3 (by rw [← Array.length_toList]; exact h6) (allOne_spec _ h1) (evSt_can ha hv) hU hl he) k
theorem set_map {α : Type} (f : α → Value) (ys : List α) (i : Nat) (y : α) (h : i < ys.length) : (ys.map f).take i ++ [f y] ++ (ys.map f).drop (i + [f y].length) = (ys.set i y).map f := by
  rw [List.map_set, List.set_eq_take_append_cons_drop, if_pos (by simpa using h)]
  simp
theorem sh_storeT (hT : TabOk P T) {α : Type} (f : α → Value) {y : α} {ys : List α} {b off n m cp : Nat} {e : TypeId} (H : Hp B A W l) (ho : getL ops.toList i = some ⟨none, op, ty, pos, aft, g⟩) (hg : guardE ops ⟨none, op, ty, pos, aft, g⟩ E = some true) (hv : evSt T E ⟨none, op, ty, pos, aft, g⟩ = some (b, off, n, f y))
    (hc : cellsO (f y) = some [f y]) (hn : Nat.beq 1 n = true) (h1 : allOne [f y] = true) (hU : Upd l (.row e 1 (.slice (some ⟨b, 0, none⟩) m cp) m (ys.map f)) (.row e 1 (.slice (some ⟨b, 0, none⟩) m cp) m ((ys.set off y).map f)) l') (hl : off < ys.length)
    (k : ∀ W', Hp B A W' l' → AOps P N B ops rest K E W') : AOps P N B ops (i :: rest) K E W :=
  sh_storeRow hT H ho hg hv hc hn h1 hU (by have := Nat.eq_of_beq_eq_true hn; simp; omega) (set_map f ys off y hl) k
theorem sh_build (hT : TabOk P T) {pl : List (Nat × Nat)} {tt : TT} {vs : List (Nat × Value)} {z c : List Value} (ho : getL ops.toList i = some ⟨some d, op, ty, pos, aft, g⟩) (hg : guardE ops ⟨some d, op, ty, pos, aft, g⟩ E = some true) (hd : Nat.ble (d + 1) N = true)
    (hv : evBd T E ⟨some d, op, ty, pos, aft, g⟩ = some (pl, tt, vs)) (hz : zeroO tt.zero = some z) (hl : fillO (nthP pl) z vs = some c) (k : AOps P N B ops rest K ((d, .agg c.toArray) :: E) W) : AOps P N B ops (i :: rest) K E W :=
  s_givesv ho hg hd (gives_build hT hv (zeroO_spec hz) (fillO_spec _ _ _ _ hl)) k
/-- append: what is appended lies in old memory, or in a row -/
theorem sh_append (hT : TabOk P T) {e : TypeId} {tt : TT} {v u : Value} {n m sz : Nat} {xs ys : List Value} {l' : Option Addr → Nat → List Res} (H : Hp B A W l) (ho : getL ops.toList i = some ⟨some d, op, ty, pos, aft, g⟩) (hg : guardE ops ⟨some d, op, ty, pos, aft, g⟩ E = some true) (hd : Nat.ble (d + 1) N = true)
    (hv : evAp T E ⟨some d, op, ty, pos, aft, g⟩ = some (e, v, u)) (ht : T.at e = some tt) (hsz : sz = tt.size) (hz : Nat.beq tt.zero.cells.size tt.size = true) (hpos : Nat.ble 1 tt.size = true) (hb : Nat.ble tt.bytes 64 = true)
    (hU : ∀ a c, Upd l (.row e sz v n xs) (.row e sz (.slice a (n + m) c) (n + m) (xs ++ ys)) (l' a c)) (hs : SlV W sz u m ys) (hnm : n + m ≤ 1099511627776)
    (k : ∀ a c W', Hp B A W' (l' a c) → AOps P N B ops rest K ((d, .slice a (n + m) c) :: E) W') : AOps P N B ops (i :: rest) K E W := by
  subst hsz
  have hbt := Nat.le_of_ble_eq_true hb
  have hm : (n + m) * tt.bytes ≤ 1099511627776 * 64 := Nat.mul_le_mul hnm hbt
  refine s_yields ho hg hd (yieldsH_append hT hv ht H (hU none 0).mem hs (Nat.eq_of_beq_eq_true hz) (Nat.le_of_ble_eq_true hpos) (by simp only [maxLen]; omega) (by omega)) fun v' W' h => ?_
  obtain ⟨a, c, rfl, h⟩ := h
  exact k a c W' (h _ (hU a c))
/-- one element pushed: the literal lies at the head -/
theorem sh_push (hT : TabOk P T) {α : Type} {f : α → Value} {y : α} {ys : List α} {e : TypeId} {tt : TT} {v u : Value} {n : Nat} {l' : Option Addr → Nat → List Res} (H : Hp B A W (.row e 1 u 1 [f y] :: l)) (ho : getL ops.toList i = some ⟨some d, op, ty, pos, aft, g⟩) (hg : guardE ops ⟨some d, op, ty, pos, aft, g⟩ E = some true) (hd : Nat.ble (d + 1) N = true)
    (hv : evAp T E ⟨some d, op, ty, pos, aft, g⟩ = some (e, v, u)) (ht : T.at e = some tt) (hsz : 1 = tt.size) (hz : Nat.beq tt.zero.cells.size tt.size = true) (hb : Nat.ble tt.bytes 64 = true)
    (hU : ∀ a c, Upd l (.row e 1 v n (ys.map f)) (.row e 1 (.slice a (n + 1) c) (n + 1) ((ys ++ [y]).map f)) (l' a c)) (hnm : n ≤ 1099511627775)
    (k : ∀ a c W', Hp B A W' (l' a c) → AOps P N B ops rest K ((d, .slice a (n + 1) c) :: E) W') : AOps P N B ops (i :: rest) K E W := by
  have hs := H.row_sl (List.Mem.head _)
  refine sh_append hT (xs := ys.map f) (H.sub (List.sublist_cons_self _ _)) ho hg hd hv ht hsz hz (by rw [← hsz]; rfl) hb (l' := l') (ys := [f y]) (fun a c => ?_) hs (by omega) k
  have := hU a c
  rwa [List.map_append] at this
end
/-! ### drawn orders, told -/
section
variable {P : Program} {N B : Nat} {E : Env} {A W : World} {ops : Array Oper} {K : Exit → Env → World → Prop} {T : Tab} {l l0 l' : List Res}
variable {i : Nat} {rest q q' : List Nat} {d : Nat} {op : Op} {ty : TypeId} {pos : String} {aft : Array Edge} {g : Option (Nat × Bool)}
def DH (B : Nat) (A : World) (l : List Res) : World → Prop := fun W => Hp B A W l
theorem so_load' (hT : TabOk P T) (hK : Lax K) {b j : Nat} {c : List Value} {e : TypeId} {v : Value} (ho : getL ops.toList i = some ⟨some d, op, ty, pos, aft, g⟩) (hg : guardE ops ⟨some d, op, ty, pos, aft, g⟩ E = some true) (hd : Nat.ble (d + 1) N = true)
    (hv : evLd T E ⟨some d, op, ty, pos, aft, g⟩ = some ⟨b, j, none⟩) (hm : Res.blk b c e ∈ l0) (hj : subCells c j 1 = some [v]) (hp : cv v = v) (hmay : mayO ops i rest = true) (k : SO P N B ops (DH B A l0) K rest ((d, v) :: E) W) : SO P N B ops (DH B A l0) K (i :: rest) E W :=
  so_gives hK ho hg hd hmay (fun W hD => gh_load hT hv ((show Hp B A W l0 from hD).ok _ hm) (by
    have h := (subCells_spec _ _ _ _ hj).1
    have h2 := congrArg (fun l => l[0]?) h
    simpa [List.getElem?_take, List.getElem?_drop] using h2) hp) k
theorem so_loada' (hT : TabOk P T) (hK : Lax K) {b off n : Nat} {c c' : List Value} {e : TypeId} (ho : getL ops.toList i = some ⟨some d, op, ty, pos, aft, g⟩) (hg : guardE ops ⟨some d, op, ty, pos, aft, g⟩ E = some true) (hd : Nat.ble (d + 1) N = true)
    (hv : evLa T E ⟨some d, op, ty, pos, aft, g⟩ = some (b, off, n)) (hm : Res.blk b c e ∈ l0) (hj : subCells c off n = some c') (hmay : mayO ops i rest = true) (k : SO P N B ops (DH B A l0) K rest ((d, .agg c'.toArray) :: E) W) : SO P N B ops (DH B A l0) K (i :: rest) E W :=
  so_gives hK ho hg hd hmay (fun W hD => gh_loada hT hv ((show Hp B A W l0 from hD).ok _ hm) (subCells_spec _ _ _ _ hj).1 (by rw [(subCells_spec _ _ _ _ hj).2]; exact Nat.beq_refl n)) k
theorem so_readA (hT : TabOk P T) (hK : Lax K) {α : Type} {f : α → Value} (d0 : α) {ys : List α} {b k j off : Nat} (ho : getL ops.toList i = some ⟨some d, op, ty, pos, aft, g⟩) (hg : guardE ops ⟨some d, op, ty, pos, aft, g⟩ E = some true) (hd : Nat.ble (d + 1) N = true)
    (hv : evLd T E ⟨some d, op, ty, pos, aft, g⟩ = some ⟨b, k, none⟩) (hr : RdV A b off (ys.map f)) (hk : k = off + j) (hi : j < ys.length) (hmay : mayO ops i rest = true) (h : SO P N B ops (DH B A l0) K rest ((d, f (ys.getD j d0)) :: E) W) : SO P N B ops (DH B A l0) K (i :: rest) E W :=
  so_gives hK ho hg hd hmay (fun W hD => gh_readT hT hv ((show Hp B A W l0 from hD).rd hr) hk hi) h
theorem so_readR (hT : TabOk P T) (hK : Lax K) {α : Type} {f : α → Value} (d0 : α) {ys : List α} {b k n c : Nat} {e : TypeId} (ho : getL ops.toList i = some ⟨some d, op, ty, pos, aft, g⟩) (hg : guardE ops ⟨some d, op, ty, pos, aft, g⟩ E = some true) (hd : Nat.ble (d + 1) N = true)
    (hv : evLd T E ⟨some d, op, ty, pos, aft, g⟩ = some ⟨b, k, none⟩) (hr : Res.row e 1 (.slice (some ⟨b, 0, none⟩) n c) n (ys.map f) ∈ l0) (hi : k < ys.length) (hmay : mayO ops i rest = true) (h : SO P N B ops (DH B A l0) K rest ((d, f (ys.getD k d0)) :: E) W) : SO P N B ops (DH B A l0) K (i :: rest) E W :=
  so_gives hK ho hg hd hmay (fun W hD => gh_readT hT hv ((show Hp B A W l0 from hD).rowRd hr) (Nat.zero_add _).symm hi) h
theorem so_build' (hT : TabOk P T) (hK : Lax K) {D : World → Prop} {pl : List (Nat × Nat)} {tt : TT} {vs : List (Nat × Value)} {z c : List Value} (ho : getL ops.toList i = some ⟨some d, op, ty, pos, aft, g⟩) (hg : guardE ops ⟨some d, op, ty, pos, aft, g⟩ E = some true) (hd : Nat.ble (d + 1) N = true)
    (hv : evBd T E ⟨some d, op, ty, pos, aft, g⟩ = some (pl, tt, vs)) (hz : zeroO tt.zero = some z) (hl : fillO (nthP pl) z vs = some c) (hm : mayO ops i rest = true) (k : SO P N B ops D K rest ((d, .agg c.toArray) :: E) W) : SO P N B ops D K (i :: rest) E W :=
  so_gives hK ho hg hd hm (fun _ _ => gives_build hT hv (zeroO_spec hz) (fillO_spec _ _ _ _ hl)) k
theorem so_len (hT : TabOk P T) (hK : Lax K) {D : World → Prop} {v : Value} (ho : getL ops.toList i = some ⟨some d, op, ty, pos, aft, g⟩) (hg : guardE ops ⟨some d, op, ty, pos, aft, g⟩ E = some true) (hd : Nat.ble (d + 1) N = true)
    (hv : evL T E ⟨some d, op, ty, pos, aft, g⟩ = some v) (hm : mayO ops i rest = true) (k : SO P N B ops D K rest ((d, v) :: E) W) : SO P N B ops D K (i :: rest) E W := so_gives hK ho hg hd hm (fun _ _ => gives_evL hT hv) k
theorem so_index1 (hT : TabOk P T) (hK : Lax K) {D : World → Prop} {b off n : Nat} {ix : Int} (ho : getL ops.toList i = some ⟨some d, op, ty, pos, aft, g⟩) (hg : guardE ops ⟨some d, op, ty, pos, aft, g⟩ E = some true) (hd : Nat.ble (d + 1) N = true)
    (hv : evI T E ⟨some d, op, ty, pos, aft, g⟩ = some (b, off, n, ix, 1)) (h0 : 0 ≤ ix) (h1 : ix < n) (hm : mayO ops i rest = true) (k : SO P N B ops D K rest ((d, .pointer (some ⟨b, off + ix.toNat, none⟩)) :: E) W) : SO P N B ops D K (i :: rest) E W :=
  so_gives hK ho hg hd hm (fun _ _ => gives_index hT hv h0 h1) (by rw [Nat.mul_one]; exact k)
theorem so_index (hT : TabOk P T) (hK : Lax K) {D : World → Prop} {b off n sz : Nat} {ix : Int} (ho : getL ops.toList i = some ⟨some d, op, ty, pos, aft, g⟩) (hg : guardE ops ⟨some d, op, ty, pos, aft, g⟩ E = some true) (hd : Nat.ble (d + 1) N = true)
    (hv : evI T E ⟨some d, op, ty, pos, aft, g⟩ = some (b, off, n, ix, sz)) (h0 : 0 ≤ ix) (h1 : ix < n) (hm : mayO ops i rest = true) (k : SO P N B ops D K rest ((d, .pointer (some ⟨b, off + ix.toNat * sz, none⟩)) :: E) W) : SO P N B ops D K (i :: rest) E W :=
  so_gives hK ho hg hd hm (fun _ _ => gives_index hT hv h0 h1) k
theorem so_pass (hK : Lax K) {D : World → Prop} (ho : getL ops.toList i = some ⟨some d, op, ty, pos, aft, g⟩) (hg : guardE ops ⟨some d, op, ty, pos, aft, g⟩ E = some false) (hd : Nat.ble (d + 1) N = true) (hm : mayO ops i rest = true) (k : SO P N B ops D K rest ((d, undef) :: E) W) : SO P N B ops D K (i :: rest) E W :=
  so_quiet (getL_ok ho) hm hK (yq_pass hd hg) k
theorem so_qcall (hK : Lax K) {D : World → Prop} {f : FuncId} {args : List Value} {v : Value} (ho : getL ops.toList i = some ⟨some d, op, ty, pos, aft, g⟩) (hg : guardE ops ⟨some d, op, ty, pos, aft, g⟩ E = some true) (hd : Nat.ble (d + 1) N = true)
    (hv : evC' E ⟨some d, op, ty, pos, aft, g⟩ = some (f, args)) (hm : mayO ops i rest = true) (hE : Ent P f) (hc : ∀ W, D W → ACalls P B f args W (fun v' W' => v' = v ∧ W' = W)) (k : SO P N B ops D K rest ((d, v) :: E) W) : SO P N B ops D K (i :: rest) E W :=
  so_quiet (getL_ok ho) hm hK (yq_call hd hg hv hE hc) k
/-- what can come up now is this alone -/
theorem so_single {D : World → Prop} (hr : (Region.ready .any ops (lstO ops.size (i :: rest)) == [i]) = true) (h : TurnO P N B ops D K (i :: rest) E W i) : SO P N B ops D K (i :: rest) E W :=
  so_all [i] (by rw [hr]; rfl) (x_one h x_none)
theorem th_yields {D : World → Prop} {R : Value → World → Prop} (q' : List Nat) (ht : takenO ops.size i q q' = true) (ho : getL ops.toList i = some ⟨some d, op, ty, pos, aft, g⟩) (hg : guardE ops ⟨some d, op, ty, pos, aft, g⟩ E = some true) (hd : Nat.ble (d + 1) N = true)
    (hy : Yields P N B ⟨some d, op, ty, pos, aft, g⟩ E W R) (k : ∀ v W', R v W' → D W' ∧ SO P N B ops D K q' ((d, v) :: E) W') : TurnO P N B ops D K q E W i := to_yields q' ht ho hg hd hy k
theorem th_box {e : TypeId} {x : Operand} {v : Value} {c : List Value} (H : Hp B A W l) (q' : List Nat) (ht : takenO ops.size i q q' = true) (ho : getL ops.toList i = some ⟨some d, op, ty, pos, aft, g⟩) (hop : op = .box e x) (hg : guardE ops ⟨some d, op, ty, pos, aft, g⟩ E = some true) (hd : Nat.ble (d + 1) N = true) (hx : ev E x = some v) (hl : cellsO v = some c)
    (hs : ∀ b, l0.Sublist (.blk b c e :: l)) (k : ∀ b W', Hp B A W' (.blk b c e :: l) → SO P N B ops (DH B A l0) K q' ((d, .pointer (some ⟨b, 0, none⟩)) :: E) W') : TurnO P N B ops (DH B A l0) K q E W i :=
  to_yields q' ht ho hg hd (yh_box H hop hx (cellsO_spec hl).2 (cellsO_spec hl).1) fun v' W' h => by
    obtain ⟨b, rfl, h⟩ := h
    exact ⟨h.sub (hs b), k b W' h⟩
theorem th_alloc (hT : TabOk P T) {e : TypeId} {tt : TT} {c : List Value} (H : Hp B A W l) (q' : List Nat) (ht : takenO ops.size i q q' = true) (ho : getL ops.toList i = some ⟨some d, op, ty, pos, aft, g⟩) (hop : op = .alloc e) (hg : guardE ops ⟨some d, op, ty, pos, aft, g⟩ E = some true) (hd : Nat.ble (d + 1) N = true) (hte : T.at e = some tt) (hl : zeroO tt.zero = some c)
    (hs : ∀ b, l0.Sublist (.blk b c e :: l)) (k : ∀ b W', Hp B A W' (.blk b c e :: l) → SO P N B ops (DH B A l0) K q' ((d, .pointer (some ⟨b, 0, none⟩)) :: E) W') : TurnO P N B ops (DH B A l0) K q E W i :=
  to_yields q' ht ho hg hd (yh_alloc hT H hop hte (zeroO_spec hl)) fun v' W' h => by
    obtain ⟨b, rfl, h⟩ := h
    exact ⟨h.sub (hs b), k b W' h⟩
theorem th_lit (hT : TabOk P T) {e : TypeId} {tt : TT} {vs c : List Value} {m : Nat} (H : Hp B A W l) (q' : List Nat) (ht : takenO ops.size i q q' = true) (ho : getL ops.toList i = some ⟨some d, op, ty, pos, aft, g⟩) (hg : guardE ops ⟨some d, op, ty, pos, aft, g⟩ E = some true) (hd : Nat.ble (d + 1) N = true)
    (hv : evBs T E ⟨some d, op, ty, pos, aft, g⟩ = some (e, vs)) (hte : T.at e = some tt) (hpos : Nat.ble 1 tt.size = true) (hz : Nat.beq tt.zero.cells.size 0 = false) (hm : litN vs = some m) (hlen : Nat.ble (m * tt.size) 16777216 = true) (hc : litL tt.size vs = some c) (h1 : allOne c = true)
    (hs : ∀ b, l0.Sublist (.row e tt.size (.slice (some ⟨b, 0, none⟩) m m) m c :: l)) (k : ∀ b W', Hp B A W' (.row e tt.size (.slice (some ⟨b, 0, none⟩) m m) m c :: l) → SO P N B ops (DH B A l0) K q' ((d, .slice (some ⟨b, 0, none⟩) m m) :: E) W') : TurnO P N B ops (DH B A l0) K q E W i :=
  to_yields q' ht ho hg hd (yh_lit hT H hv hte (litN_spec hm) (litL_spec _ _ hc).2 hpos hz hlen (litL_spec _ _ hc).1 (allOne_spec _ h1)) fun v' W' h => by
    obtain ⟨b, rfl, h⟩ := h
    exact ⟨h.sub (hs b), k b W' h⟩
theorem th_append (hT : TabOk P T) {e : TypeId} {tt : TT} {v u : Value} {n m sz : Nat} {xs ys : List Value} {l' : Option Addr → Nat → List Res} (H : Hp B A W l) (q' : List Nat) (ht : takenO ops.size i q q' = true) (ho : getL ops.toList i = some ⟨some d, op, ty, pos, aft, g⟩) (hg : guardE ops ⟨some d, op, ty, pos, aft, g⟩ E = some true) (hd : Nat.ble (d + 1) N = true)
    (hv : evAp T E ⟨some d, op, ty, pos, aft, g⟩ = some (e, v, u)) (hte : T.at e = some tt) (hsz : sz = tt.size) (hz : Nat.beq tt.zero.cells.size tt.size = true) (hpos : Nat.ble 1 tt.size = true) (hb : Nat.ble tt.bytes 64 = true)
    (hU : ∀ a c, Upd l (.row e sz v n xs) (.row e sz (.slice a (n + m) c) (n + m) (xs ++ ys)) (l' a c)) (hsl : SlV W sz u m ys) (hnm : n + m ≤ 1099511627776)
    (hs : ∀ a c, l0.Sublist (l' a c)) (k : ∀ a c W', Hp B A W' (l' a c) → SO P N B ops (DH B A l0) K q' ((d, .slice a (n + m) c) :: E) W') : TurnO P N B ops (DH B A l0) K q E W i := by
  subst hsz
  have hbt := Nat.le_of_ble_eq_true hb
  have hm : (n + m) * tt.bytes ≤ 1099511627776 * 64 := Nat.mul_le_mul hnm hbt
  refine to_yields q' ht ho hg hd (yieldsH_append hT hv hte H (hU none 0).mem hsl (Nat.eq_of_beq_eq_true hz) (Nat.le_of_ble_eq_true hpos) (by simp only [maxLen]; omega) (by omega)) fun v' W' h => ?_
  obtain ⟨a, c, rfl, h⟩ := h
  exact ⟨(h _ (hU a c)).sub (hs a c), k a c W' (h _ (hU a c))⟩
theorem th_load (hT : TabOk P T) {b j : Nat} {c : List Value} {e : TypeId} {v : Value} (H : Hp B A W l) (q' : List Nat) (ht : takenO ops.size i q q' = true) (ho : getL ops.toList i = some ⟨some d, op, ty, pos, aft, g⟩) (hg : guardE ops ⟨some d, op, ty, pos, aft, g⟩ E = some true) (hd : Nat.ble (d + 1) N = true)
    (hv : evLd T E ⟨some d, op, ty, pos, aft, g⟩ = some ⟨b, j, none⟩) (hm : Res.blk b c e ∈ l) (hj : subCells c j 1 = some [v]) (hp : cv v = v) (hs : l0.Sublist l) (k : SO P N B ops (DH B A l0) K q' ((d, v) :: E) W) : TurnO P N B ops (DH B A l0) K q E W i :=
  to_yields q' ht ho hg hd (gh_load hT hv (H.ok _ hm) (by
    have h := (subCells_spec _ _ _ _ hj).1
    have h2 := congrArg (fun l => l[0]?) h
    simpa [List.getElem?_take, List.getElem?_drop] using h2) hp) fun v' W' h => by
    obtain ⟨rfl, rfl⟩ := h
    exact ⟨H.sub hs, k⟩
theorem th_call {D : World → Prop} {f : FuncId} {args : List Value} {R : Value → World → Prop} (q' : List Nat) (ht : takenO ops.size i q q' = true) (ho : getL ops.toList i = some ⟨some d, op, ty, pos, aft, g⟩) (hg : guardE ops ⟨some d, op, ty, pos, aft, g⟩ E = some true) (hd : Nat.ble (d + 1) N = true)
    (hv : evC' E ⟨some d, op, ty, pos, aft, g⟩ = some (f, args)) (hE : Ent P f) (hc : ACalls P B f args W R) (k : ∀ v W', R v W' → D W' ∧ SO P N B ops D K q' ((d, v) :: E) W') : TurnO P N B ops D K q E W i :=
  to_call q' ht ho hg hd hv hE hc k
theorem th_store (hT : TabOk P T) {b off n : Nat} {v : Value} {c c' vs : List Value} {e : TypeId} (H : Hp B A W l) (hcan : cv v = v) (q' : List Nat) (ht : takenO ops.size i q q' = true) (ho : getL ops.toList i = some ⟨none, op, ty, pos, aft, g⟩) (hg : guardE ops ⟨none, op, ty, pos, aft, g⟩ E = some true) (hv : evSt T E ⟨none, op, ty, pos, aft, g⟩ = some (b, off, n, v))
    (hc : cellsO v = some vs) (hn : Nat.beq vs.length n = true) (h1 : allOne vs = true) (hU : Upd l (.blk b c e) (.blk b c' e) l') (he : setCells c off vs = some c')
    (hs : l0.Sublist l') (k : ∀ W', Hp B A W' l' → SO P N B ops (DH B A l0) K q' E W') : TurnO P N B ops (DH B A l0) K q E W i := by
  obtain ⟨h2, h3⟩ := cellsO_spec hc
  obtain ⟨h4, h5⟩ := setCells_spec _ _ _ _ he
  have h6 := Nat.eq_of_beq_eq_true hn
  subst h2
  obtain ⟨W1, h7, h8⟩ := kh_store (E := E) (N := N) hT H hv h3 (by rw [← Array.length_toList]; exact h6) (allOne_spec _ h1) hcan hU (by omega) h5
  refine ⟨q', ht, _, getL_ok ho, rfl, _, srun_skips hg h7, ?_⟩
  rintro v' W' ⟨-, rfl⟩
  exact ⟨h8.sub hs, k _ h8⟩
end
/-! ### frames trimmed -/
def hasN : List Nat → Nat → Bool
  | [], _ => false
  | x :: r, k => match Nat.beq x k with
    | true => true
    | false => hasN r k
/-- of the frame: the slots below n, each once -/
def trim (n : Nat) : List Nat → Env → Option Env
  | _, [] => some []
  | seen, (k, v) :: r => match Nat.ble (k + 1) n with
    | false => trim n seen r
    | true => match hasN seen k with
      | true => trim n seen r
      | false => match trim n (k :: seen) r with
        | some r' => some ((k, v) :: r')
        | none => none
theorem hasN_mem : ∀ (l : List Nat) (k : Nat), hasN l k = true → k ∈ l
  | [], _, h => by cases h
  | x :: r, k, h => by
    simp only [hasN] at h
    split at h
    · rename_i hb
      rw [Nat.eq_of_beq_eq_true hb]; exact List.Mem.head _
    · exact List.Mem.tail _ (hasN_mem r k h)
theorem trim_less {n : Nat} : ∀ (E : Env) (seen : List Nat) (E' : Env), trim n seen E = some E' → ∀ t v, Env.get E' t = some v → t ∉ seen ∧ Env.get E t = some v
  | [], _, E', h, t, v, hv => by cases h; cases hv
  | (k, u) :: r, seen, E', h, t, v, hv => by
    simp only [trim] at h
    have skip : trim n seen r = some E' → (k ∈ seen ∨ ¬ k < n) → t ∉ seen ∧ Env.get ((k, u) :: r) t = some v := by
      intro h1 h2
      obtain ⟨h3, h4⟩ := trim_less r seen E' h1 t v hv
      refine ⟨h3, ?_⟩
      simp only [Env.get]
      split
      · rename_i hb
        have := Nat.eq_of_beq_eq_true hb
        subst this
        exfalso
        rcases h2 with h2 | h2
        · exact h3 h2
        · exact h2 (trim_lt r seen E' h1 k v hv)
      · exact h4
    split at h
    · rename_i hb
      refine skip h (.inr fun hlt => ?_)
      rw [show Nat.ble (k + 1) n = true from Nat.ble_eq_true_of_le hlt] at hb; cases hb
    · split at h
      · rename_i hs
        exact skip h (.inl (hasN_mem _ _ hs))
      · rename_i hs
        split at h
        · rename_i r' hr
          cases h
          simp only [Env.get] at hv ⊢
          split at hv
          · rename_i hb
            have := Nat.eq_of_beq_eq_true hb
            subst this
            exact ⟨fun hm => (by rw [mem_hasN _ _ hm] at hs; cases hs), hv⟩
          · rename_i hb
            obtain ⟨h3, h4⟩ := trim_less r (k :: seen) r' hr t v hv
            exact ⟨fun hm => h3 (List.mem_cons_of_mem _ hm), h4⟩
        · cases h
where
  mem_hasN : ∀ (l : List Nat) (k : Nat), k ∈ l → hasN l k = true
    | x :: r, k, h => by
      simp only [hasN]
      split
      · rfl
      · rename_i hb
        rcases List.mem_cons.1 h with rfl | h
        · rw [Nat.beq_refl] at hb; cases hb
        · exact mem_hasN r k h
  trim_lt {n : Nat} : ∀ (E : Env) (seen : List Nat) (E' : Env), trim n seen E = some E' → ∀ t v, Env.get E' t = some v → t < n
    | [], _, E', h, t, v, hv => by cases h; cases hv
    | (k, u) :: r, seen, E', h, t, v, hv => by
      simp only [trim] at h
      split at h
      · exact trim_lt r seen E' h t v hv
      · rename_i hk
        split at h
        · exact trim_lt r seen E' h t v hv
        · split at h
          · rename_i r' hr
            cases h
            simp only [Env.get] at hv
            split at hv
            · rename_i hb
              have := Nat.eq_of_beq_eq_true hb
              subst this
              exact Nat.le_of_ble_eq_true hk
            · exact trim_lt r (k :: seen) r' hr t v hv
          · cases h
section
variable {P : Program} {N B : Nat} {E E' : Env} {W : World} {K : Exit → Env → World → Prop}
theorem aw_trim {c : Code} (n : Nat) (h : trim n [] E = some E') (k : AW P N B c K E' W) : AW P N B c K E W :=
  k.less fun t v ht => (trim_less E [] E' h t v ht).2
theorem aw_regk {ops : Array Oper} {id : Nat} (n : Nat) (h : trim n [] E = some E') (k : AOps P N B ops (upFrom ops.size 0) K E' W) : AW P N B (.region id ops false) K E W :=
  aw_trim n h (aw_reg k)
end
/-! ### cuts: whatever the order, so much is known -/
section
variable {P : Program} {N B : Nat} {E : Env} {A W : World} {K K1 K2 : Exit → Env → World → Prop}
theorem AW.conseq {c : Code} (h : ∀ ex E W, K1 ex E W → K2 ex E W) (h1 : AW P N B c K1 E W) : AW P N B c K2 E W :=
  aw_intro fun a w ha hw hB => wp_mono (aw_elim h1 a w ha hw hB) fun ex a' w' hk => by
    obtain ⟨h2, E', h3, h4⟩ := hk
    exact ⟨h2, E', h3, h _ _ _ h4⟩
def MidK {α : Type} (B : Nat) (A : World) (e : α → Env) (r : α → List Res) : Exit → Env → World → Prop := fun ex E W => ex = .normal ∧ ∃ x, (∀ t v, (e x).get t = some v → E.get t = some v) ∧ Hp B A W (r x)
theorem mid_done {α : Type} {e : α → Env} {r : α → List Res} (x : α) (h : ∀ t v, (e x).get t = some v → E.get t = some v) (H : Hp B A W (r x)) : MidK B A e r .normal E W := ⟨rfl, x, h, H⟩
theorem lax_mid {α : Type} {e : α → Env} {r : α → List Res} : Lax (MidK B A e r) := lax_mk fun E1 E2 W he h => by
  obtain ⟨h1, x, h2, h3⟩ := h
  exact ⟨h1, x, fun t v ht => by rw [← he]; exact h2 t v ht, h3⟩
theorem aw_cut {α : Type} {c y : Code} (e : α → Env) (r : α → List Res) (h1 : AW P N B c (MidK B A e r) E W) (h2 : ∀ x W, Hp B A W (r x) → AW P N B y K (e x) W) : AW P N B c (Thn P N B y K) E W :=
  AW.conseq (fun ex E W h => by
    obtain ⟨rfl, x, h3, h4⟩ := h
    exact thn_normal ((h2 x W h4).less h3)) h1
end
instance lxMid {B : Nat} {A : World} {α : Type} {e : α → Env} {r : α → List Res} : LaxC (MidK B A e r) := ⟨lax_mid⟩
attribute [irreducible] MidK
/-! ### loops -/
section
variable {P : Program} {N B : Nat} {K : Exit → Env → World → Prop} {E : Env} {A W : World} {l : List Res}
theorem rv_cellH {T : Tab} {t : Nat} {ty e : TypeId} {tt : TT} {b : Nat} {c : List Value} {r : List ResultVar} {vs : List Value} (H : Hp B A W l) (h1 : E.get t = some (.pointer (some ⟨b, 0, none⟩))) (h2 : T.at ty = some tt) (h3 : isAggD tt.d = true)
    (hm : Res.blk b c e ∈ l) (h4 : c.length = tt.size) (h : RV T E W r vs) : RV T E W (.cell t ty :: r) (.agg c.toArray :: vs) := by
  have hb := H.ok _ hm
  have := rv_cell h1 h2 h3 h4 hb.1.cells h
  rwa [List.map_congr_left (g := id) (fun x hx => hb.2 x hx), List.map_id] at this
def RndH {α : Type} (B : Nat) (A : World) (e : α → Env) (r : α → List Res) (I : α → Prop) (μ : α → Nat) (m : Nat) (K : Exit → Env → World → Prop) : Exit → Env → World → Prop :=
  Rnd (fun s : α × World => e s.1) (fun s => s.2) (fun s => I s.1 ∧ Hp B A s.2 (r s.1)) (fun s => μ s.1) m K
theorem aw_loopH {α : Type} {x : Code} (e : α → Env) (r : α → List Res) (I : α → Prop) (μ : α → Nat) (x0 : α) (h0 : I x0) (H : Hp B A W (r x0))
    (hE : ∀ t v, (e x0).get t = some v → E.get t = some v)
    (h : ∀ y W, I y → Hp B A W (r y) → AW P N B x (RndH B A e r I μ (μ y) K) (e y) W) : AW P N B (.loop x) K E W :=
  aw_loop (fun s : α × World => e s.1) (fun s => s.2) (fun s => I s.1 ∧ Hp B A s.2 (r s.1)) (fun s => μ s.1) (x0, W) ⟨h0, H⟩ hE rfl (fun y hy => h y.1 y.2 hy.1 hy.2)
theorem rndh_ret {α : Type} {e : α → Env} {r : α → List Res} {I : α → Prop} {μ : α → Nat} {m : Nat} (h : K .ret E W) : RndH B A e r I μ m K .ret E W := rnd_ret h
theorem rndh_exit {α : Type} {e : α → Env} {r : α → List Res} {I : α → Prop} {μ : α → Nat} {m : Nat} {id : Nat} (h : K (.exit id) E W) : RndH B A e r I μ m K (.exit id) E W := rnd_exit h
theorem rndh_next {α : Type} {e : α → Env} {r : α → List Res} {I : α → Prop} {μ : α → Nat} {m : Nat} (x : α) (h1 : I x) (h2 : μ x < m) (h3 : ∀ t v, (e x).get t = some v → E.get t = some v) (H : Hp B A W (r x)) : RndH B A e r I μ m K .normal E W :=
  rnd_next (x, W) ⟨h1, H⟩ h2 h3 rfl
theorem lax_rndh {α : Type} {e : α → Env} {r : α → List Res} {I : α → Prop} {μ : α → Nat} {m : Nat} : Lax (RndH B A e r I μ m K) := lax_rnd
theorem Hp.call1 {W' : World} {r : Res} (h : Hp B A W l) (hm : Hp B W W' [r]) : Hp B A W' (r :: l) := h.call hm
theorem Hp.call2 {W' : World} {r s : Res} (h : Hp B A W l) (hm : Hp B W W' [r, s]) : Hp B A W' (r :: s :: l) := h.call hm
theorem Hp.call3 {W' : World} {r s t : Res} (h : Hp B A W l) (hm : Hp B W W' [r, s, t]) : Hp B A W' (r :: s :: t :: l) := h.call hm
theorem Hp.call0 {W' : World} (h : Hp B A W l) (hm : Hp B W W' []) : Hp B A W' l := h.call hm
end
instance lxRndh {B : Nat} {A : World} {K : Exit → Env → World → Prop} {α : Type} {e : α → Env} {r : α → List Res} {I : α → Prop} {μ : α → Nat} {m : Nat} : LaxC (RndH B A e r I μ m K) := ⟨lax_rndh⟩
attribute [irreducible] RndH
/-! ### the next thing to show, found by the form of what is to show -/
class Stp (G : Prop) (H : outParam Prop) : Prop where
  imp : H → G
section
variable {P : Program} {N B : Nat} {E : Env} {W : World} {ops : Array Oper} {K : Exit → Env → World → Prop} {x y : Code} {id : Nat}
instance stpNil : Stp (AOps P N B ops [] K E W) (K .normal E W) := ⟨aops_nil⟩
instance stpThnN : Stp (Thn P N B y K .normal E W) (AW P N B y K E W) := ⟨thn_normal⟩
instance stpThnR : Stp (Thn P N B y K .ret E W) (K .ret E W) := ⟨thn_ret⟩
instance stpThnE : Stp (Thn P N B y K (.exit id) E W) (K (.exit id) E W) := ⟨thn_exit⟩
instance stpSeq : Stp (AW P N B (.seq x y) K E W) (AW P N B x (Thn P N B y K) E W) := ⟨aw_seq⟩
instance stpBlock : Stp (AW P N B (.block id x) K E W) (AW P N B x (Blk id K) E W) := ⟨aw_block⟩
instance stpSkip : Stp (AW P N B .skip K E W) (K .normal E W) := ⟨aw_skip⟩
instance stpExit : Stp (AW P N B (.exit id) K E W) (K (.exit id) E W) := ⟨aw_exit⟩
instance stpRet : Stp (AW P N B .ret K E W) (K .ret E W) := ⟨aw_ret⟩
instance stpBlkE : Stp (Blk id K (.exit id) E W) (K .normal E W) := ⟨blk_exit⟩
instance stpBlkN : Stp (Blk id K .normal E W) (K .normal E W) := ⟨blk_normal⟩
instance stpBlkR : Stp (Blk id K .ret E W) (K .ret E W) := ⟨blk_ret⟩
instance stpRndR {α : Type} {e : α → Env} {w : α → World} {I : α → Prop} {μ : α → Nat} {m : Nat} : Stp (Rnd e w I μ m K .ret E W) (K .ret E W) := ⟨rnd_ret⟩
instance stpRndE {α : Type} {e : α → Env} {w : α → World} {I : α → Prop} {μ : α → Nat} {m : Nat} : Stp (Rnd e w I μ m K (.exit id) E W) (K (.exit id) E W) := ⟨rnd_exit⟩
instance stpRndhR {A : World} {α : Type} {e : α → Env} {r : α → List Res} {I : α → Prop} {μ : α → Nat} {m : Nat} : Stp (RndH B A e r I μ m K .ret E W) (K .ret E W) := ⟨rndh_ret⟩
instance stpRndhE {A : World} {α : Type} {e : α → Env} {r : α → List Res} {I : α → Prop} {μ : α → Nat} {m : Nat} : Stp (RndH B A e r I μ m K (.exit id) E W) (K (.exit id) E W) := ⟨rndh_exit⟩
end
end Go.Proofs.Ytmplincflbhmiaa.Cn
