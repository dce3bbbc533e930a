/- Memory, calls, and a function as a whole. -/
import Derived.Test.YtmplincflbhmiaaCn5
import Derived.Laws.MakeOwn
import Derived.Laws.AppendOwnNone
import Derived.Laws.OwnMore
namespace Go.Proofs.Ytmplincflbhmiaa.Cn
set_option linter.unusedSimpArgs false
set_option linter.unusedVariables false
open Go Go.RowKit

section
variable {P : Program} {N B : Nat} {E : Env} {W : World} {ops : Array Oper} {K : Exit → Env → World → Prop}

/-! ### reading -/
def isAggD : TypeDesc → Bool
  | .struct _ => true
  | .array _ _ => true
  | _ => false
theorem run_isAgg {t : TypeId} {d : TypeDesc} (h : P.underlying t = some d) (w : World) : (isAgg t).run P w = .ok (isAggD d) w := by
  unfold isAgg
  cases d <;> simp [run_underlying h, isAggD]
/-- a scalar's load: the type is none of aggregates -/
def evLd (T : Tab) (E : Env) (o : Oper) : Option Addr :=
  match o.op with
  | .load t x => match T.at t with
    | some ⟨d, _, _, _⟩ => match isAggD d with
      | false => match ev E x with
        | some (.pointer (some a)) => some a
        | _ => none
      | true => none
    | none => none
  | _ => none
theorem gives_load {T : Tab} (hT : TabOk P T) {o : Oper} {a : Addr} {v : Value} (hv : evLd T E o = some a) (hc : W.cell? a = some v) (hp : cv (cl v) = cl v) : Gives P N B o E W (cl v) W := by
  refine gives_of fun ac w ha hw hB => ?_
  unfold evLd at hv
  split at hv
  · rename_i t x hop
    split at hv
    · rename_i d s1 b1 z1 ht
      obtain ⟨hu, -⟩ := hT _ _ ht
      simp only at hu
      split at hv
      · rename_i hag
        split at hv
        · rename_i a' hx
          cases hv
          have e1 := cv_pointer (ev_sound ha hx)
          obtain ⟨u, hu1, hu2⟩ := cell_back hw hc
          refine ⟨u, w, ?_, ?_, rfl⟩
          · simp only [execOp, hop, e1]
            refine run_v ?_
            have := run_isAgg (P := P) hu w
            simp [Instr.loadAt, Instr.sureAddr, loadVar, this, hag, hu1]
          · rw [← hu2] at hp ⊢
            cases u <;> simp [cl, cv, c1] at hp ⊢ <;> first | exact hp | skip
        · cases hv
      · cases hv
    · cases hv
  · cases hv

theorem aops_load {T : Tab} (hT : TabOk P T) {i : Nat} {rest : List Nat} {o : Oper} {a : Addr} {v : Value} (ho : ops[i]? = some o) (hg : guardE ops o E = some true) (hd : dstOk N o.dst = true)
    (hv : evLd T E o = some a) (hc : W.cell? a = some v) (hp : cv (cl v) = cl v) (k : AOps P N B ops rest K (putE E o.dst (cl v)) W) : AOps P N B ops (i :: rest) K E W := aops_gives ho hg hd (gives_load hT hv hc hp) k
/-- cells in a row -/
def Cells (W : World) (b off : Nat) (vs : List Value) : Prop := ∀ j u, vs[j]? = some u → W.cell? ⟨b, off + j, none⟩ = some u
def evLa (T : Tab) (E : Env) (o : Oper) : Option (Nat × Nat × Nat) :=
  match o.op with
  | .load t x => match T.at t with
    | some ⟨d, n, _, _⟩ => match isAggD d with
      | true => match ev E x with
        | some (.pointer (some ⟨b, off, none⟩)) => some (b, off, n)
        | _ => none
      | false => none
    | none => none
  | _ => none
theorem cells_back {w : World} (hw : cw B w = W) : ∀ (vs : List Value) (b off : Nat), Cells W b off vs → ∃ us : List Value, us.length = vs.length ∧ us.map cl = vs.map cl ∧ (∀ j u, us[j]? = some u → w.cell? ⟨b, off + j, none⟩ = some u) := by
  intro vs
  induction vs with
  | nil => intro b off _; exact ⟨[], rfl, rfl, fun j u h => by simp at h⟩
  | cons v vs ih =>
    intro b off h
    obtain ⟨u, h1, h2⟩ := cell_back hw (h 0 v rfl)
    obtain ⟨us, h3, h4, h5⟩ := ih b (off + 1) (fun j x hj => by
      have := h (j + 1) x (by simpa using hj)
      rwa [show off + (j + 1) = off + 1 + j by omega] at this)
    refine ⟨u :: us, by simp [h3], by simp [h2, h4], ?_⟩
    intro j x hj
    cases j with
    | zero => simp at hj; subst hj; exact h1
    | succ j =>
      have := h5 j x (by simpa using hj)
      rwa [show off + 1 + j = off + (j + 1) by omega] at this
theorem gives_loada {T : Tab} (hT : TabOk P T) {o : Oper} {b off n : Nat} {vs : List Value} (hv : evLa T E o = some (b, off, n)) (hc : Cells W b off vs) (hn : vs.length = n) : Gives P N B o E W (.agg (vs.map cl).toArray) W := by
  refine gives_of fun ac w ha hw hB => ?_
  unfold evLa at hv
  split at hv
  · rename_i t x hop
    split at hv
    · rename_i d s1 b1 z1 ht
      obtain ⟨hu, ii, hi, hs, -⟩ := hT _ _ ht
      simp only at hu hs
      split at hv
      · rename_i hag
        split at hv
        · rename_i b' off' hx
          cases hv
          have e1 := cv_pointer (ev_sound ha hx)
          obtain ⟨us, h1, h2, h3⟩ := cells_back hw vs b off hc
          refine ⟨.agg us.toArray, w, ?_, ?_, rfl⟩
          · simp only [execOp, hop, e1]
            refine run_v ?_
            have h4 := run_isAgg (P := P) hu w
            have h5 := run_loadCells_list (P := P) (w := w) ⟨b, off, none⟩ us (fun j u hj => by rw [Addr.add_lit]; exact h3 j u hj)
            simp [Instr.loadAt, Instr.sureAddr, loadVar, h4, hag, sizeOf, typeInfo, hi, hs, ← hn, ← h1, h5]
          · simp [cv, c1, h2]
        · cases hv
      · cases hv
    · cases hv
  · cases hv

/-! ### new blocks -/
theorem aops_loada {T : Tab} (hT : TabOk P T) {i : Nat} {rest : List Nat} {o : Oper} {b off n : Nat} {vs : List Value} (ho : ops[i]? = some o) (hg : guardE ops o E = some true) (hd : dstOk N o.dst = true)
    (hv : evLa T E o = some (b, off, n)) (hc : Cells W b off vs) (hn : vs.length = n) (k : AOps P N B ops rest K (putE E o.dst (.agg (vs.map cl).toArray)) W) : AOps P N B ops (i :: rest) K E W := aops_gives ho hg hd (gives_loada hT hv hc hn) k
theorem heap_cells_map {o : Obj} {c : Array Value} {e : TypeId} {f : Nat × Nat} (h : co o = .cells c e f) : ∃ c0, o = .cells c0 e f ∧ c0.map cl = c := by
  cases o <;> simp [co] at h
  obtain ⟨h1, h2, h3⟩ := h
  subst h2; subst h3
  exact ⟨_, rfl, h1⟩
/-- a new variable -/
def zerosOf (z : Value) : Array Value := z.cells.map cl
theorem gives_alloc {T : Tab} (hT : TabOk P T) {o : Oper} {e : TypeId} {tt : TT} (hop : o.op = .alloc e) (ht : T.at e = some tt) :
    Gives P N B o E W (.pointer (some ⟨W.heap.size, 0, none⟩)) (W.alloc (.cells (zerosOf tt.zero) e)) := by
  intro ac w ha hw hB
  obtain ⟨-, ii, hi, -, -, hz⟩ := hT _ _ ht
  subst hw
  refine ⟨.pointer (some ⟨w.heap.size, 0, none⟩), w.alloc (.cells tt.zero.cells e), ?_, by simp; omega, by simp [cv, c1, cl], ?_⟩
  · simp only [execOp, hop]
    refine run_v ?_
    simp [Instr.alloc, zeroValue, typeInfo, hi, hz, newVar, newRow]
  · rw [cw_alloc hB]; rfl
theorem aops_alloc {T : Tab} (hT : TabOk P T) {i : Nat} {rest : List Nat} {o : Oper} {e : TypeId} {tt : TT} (ho : ops[i]? = some o) (hop : o.op = .alloc e) (hg : guardE ops o E = some true) (hd : dstOk N o.dst = true)
    (ht : T.at e = some tt) (k : AOps P N B ops rest K (putE E o.dst (.pointer (some ⟨W.heap.size, 0, none⟩))) (W.alloc (.cells (zerosOf tt.zero) e))) : AOps P N B ops (i :: rest) K E W :=
  aops_gives ho hg hd (gives_alloc hT hop ht) k
/-- a value boxed -/
theorem cells_cv {u v : Value} (h : cv u = v) (hp : plain v = some v) : u.cells.map cl = v.cells := by
  subst h
  cases u <;> simp [cv, c1, cl, Value.cells, plain] at hp ⊢
theorem gives_box {o : Oper} {e : TypeId} {x : Operand} {v : Value} (hop : o.op = .box e x) (hx : ev E x = some v) (hp : plain v = some v) :
    Gives P N B o E W (.pointer (some ⟨W.heap.size, 0, none⟩)) (W.alloc (.cells v.cells e)) := by
  intro ac w ha hw hB
  subst hw
  have h1 := ev_sound ha hx
  refine ⟨.pointer (some ⟨w.heap.size, 0, none⟩), w.alloc (.cells (ac.eval x).cells e), ?_, by simp; omega, by simp [cv, c1, cl], ?_⟩
  · simp only [execOp, hop]
    refine run_v ?_
    simp [Instr.box, newVar, newRow]
  · rw [cw_alloc hB]
    simp only [co, cells_cv h1 hp]
theorem aops_box {i : Nat} {rest : List Nat} {o : Oper} {e : TypeId} {x : Operand} {v : Value} (ho : ops[i]? = some o) (hop : o.op = .box e x) (hg : guardE ops o E = some true) (hd : dstOk N o.dst = true)
    (hx : ev E x = some v) (hp : plain v = some v) (k : AOps P N B ops rest K (putE E o.dst (.pointer (some ⟨W.heap.size, 0, none⟩))) (W.alloc (.cells v.cells e))) : AOps P N B ops (i :: rest) K E W :=
  aops_gives ho hg hd (gives_box hop hx hp) k
/-- make -/
def evMk (T : Tab) (E : Env) (o : Oper) : Option (TypeId × Int × Int) :=
  match o.op with
  | .makeSlice t l c => match T.at t with
    | some ⟨.slice e, _, _, _⟩ => match ev E l with
      | some (.int _ n) => match ev E c with
        | some (.int _ m) => some (e, n, m)
        | _ => none
      | _ => none
    | _ => none
  | _ => none
theorem map_madeCells (z : Array Value) (n : Nat) (hz : 0 < z.size) : (madeCells z n).map cl = madeCells (z.map cl) n := by
  unfold madeCells
  rw [Array.map_map]
  apply Array.ext
  · simp
  · intro i h1 h2
    simp only [Array.getElem_map, Array.getElem_range, Function.comp, Array.size_map]
    have hlt : i % z.size < z.size := Nat.mod_lt _ hz
    rw [getElem!_pos z (i % z.size) hlt, getElem!_pos (z.map cl) (i % z.size) (by simpa using hlt)]
    simp
theorem gives_make {T : Tab} (hT : TabOk P T) {o : Oper} {e : TypeId} {tt : TT} {n m : Int}
    (hv : evMk T E o = some (e, n, m)) (ht : T.at e = some tt) (hz0 : 0 < tt.zero.cells.size) (h0 : 0 ≤ n) (h1 : n ≤ m) (h2 : (tt.bytes : Int) * m ≤ 281474976710656) (h3 : m ≤ 9223372036854775807) :
    Gives P N B o E W (.slice (some ⟨W.heap.size, 0, none⟩) n.toNat m.toNat) (W.alloc (.cells (madeCells (zerosOf tt.zero) (m.toNat * tt.size)) e)) := by
  intro ac w ha hw hB
  obtain ⟨-, ii, hi, hs, hb, hz⟩ := hT _ _ ht
  unfold evMk at hv
  split at hv
  · rename_i t l c hop
    split at hv
    · rename_i e' s1 b1 z1 htt
      obtain ⟨hu, -⟩ := hT _ _ htt
      simp only at hu
      split at hv
      · rename_i k1 n1 hl
        split at hv
        · rename_i k2 m1 hc
          cases hv
          have e1 := cv_int (ev_sound ha hl)
          have e2 := cv_int (ev_sound ha hc)
          subst hw
          refine ⟨.slice (some ⟨w.heap.size, 0, none⟩) n.toNat m.toNat, w.alloc (.cells (madeCells tt.zero.cells (m.toNat * tt.size)) e), ?_, by simp; omega, by simp [cv, c1, cl], ?_⟩
          · simp only [execOp, hop, e1, e2]
            refine run_v ?_
            have := run_make (P := P) w t e ii tt.zero hu hi hz k1 k2 n m h0 h1 (by rw [hb]; exact h2) h3
            rw [hs] at this
            exact this
          · rw [cw_alloc hB]; simp only [co, map_madeCells _ _ hz0]; rfl
        · cases hv
      · cases hv
    · cases hv
  · cases hv
theorem aops_make {T : Tab} (hT : TabOk P T) {i : Nat} {rest : List Nat} {o : Oper} {e : TypeId} {tt : TT} {n m : Int} (ho : ops[i]? = some o) (hg : guardE ops o E = some true) (hd : dstOk N o.dst = true)
    (hv : evMk T E o = some (e, n, m)) (ht : T.at e = some tt) (hz0 : 0 < tt.zero.cells.size) (h0 : 0 ≤ n) (h1 : n ≤ m) (h2 : (tt.bytes : Int) * m ≤ 281474976710656) (h3 : m ≤ 9223372036854775807)
    (k : AOps P N B ops rest K (putE E o.dst (.slice (some ⟨W.heap.size, 0, none⟩) n.toNat m.toNat)) (W.alloc (.cells (madeCells (zerosOf tt.zero) (m.toNat * tt.size)) e))) : AOps P N B ops (i :: rest) K E W := by
  refine aops_gives ho hg hd (v := .slice (some ⟨W.heap.size, 0, none⟩) n.toNat m.toNat) (W' := W.alloc (.cells (madeCells (zerosOf tt.zero) (m.toNat * tt.size)) e)) (gives_make hT hv ht hz0 h0 h1 h2 h3) k

/-! ### writing -/
theorem cw_setRow {g : Nat} {w : World} (h : B ≤ g) (cs : Array Value) : cw B (w.setRow g cs) = (cw B w).setRow g (cs.map cl) := by
  refine world_ext ?_ rfl rfl rfl rfl
  apply Array.ext_getElem?
  intro i
  show (cw B (w.setRow g cs)).heap[i]? = ((cw B w).setRow g (cs.map cl)).heap[i]?
  rw [cw_heap]
  unfold World.setRow
  simp only [Array.getElem?_modify]
  rw [cw_heap]
  by_cases hi : g = i
  · subst hi
    simp only [if_true]
    cases w.heap[g]? with
    | none => rfl
    | some o =>
      have hn : ¬ g < B := by omega
      cases o <;> simp [hn, co]
  · simp [hi]
/-- a block of the call's own, as it lies -/
theorem block_back {w : World} (hw : cw B w = W) {g : Nat} (hg : B ≤ g) {cur : Array Value} {e : TypeId} {f : Nat × Nat} (h : W.heap[g]? = some (.cells cur e f)) :
    ∃ cur0, w.heap[g]? = some (.cells cur0 e f) ∧ cur0.map cl = cur := by
  rw [← hw, cw_heap] at h
  cases ho : w.heap[g]? with
  | none => rw [ho] at h; cases h
  | some o =>
    rw [ho] at h
    simp only [Option.map_some, show ¬ g < B by omega, if_false] at h
    obtain ⟨c0, h1, h2⟩ := heap_cells_map (Option.some.inj h)
    exact ⟨c0, by rw [h1], h2⟩
/-- cells written over -/
def splice (cur : Array Value) (off : Nat) (vs : List Value) : Array Value := (cur.toList.take off ++ vs ++ cur.toList.drop (off + vs.length)).toArray
theorem map_splice (cur : Array Value) (off : Nat) (vs : List Value) : (splice cur off vs).map cl = splice (cur.map cl) off (vs.map cl) := by
  simp [splice, List.map_append, List.map_take, List.map_drop]
def evSt (T : Tab) (E : Env) (o : Oper) : Option (Nat × Nat × Nat × Value) :=
  match o.op with
  | .store t x y => match T.at t with
    | some ⟨_, n, _, _⟩ => match ev E x with
      | some (.pointer (some ⟨b, off, none⟩)) => match ev E y with
        | some v => some (b, off, n, v)
        | none => none
      | _ => none
    | none => none
  | _ => none
theorem oneCell_cl {v : Value} : (cl v).oneCell' = v.oneCell' := by cases v <;> rfl
theorem all_oneCell {us : List Value} (h : ∀ v ∈ us.map cl, v.oneCell' = true) : ∀ v ∈ us, v.oneCell' = true := by
  intro v hv
  have := h (cl v) (List.mem_map_of_mem hv)
  rwa [oneCell_cl] at this
theorem skips_store {T : Tab} (hT : TabOk P T) {o : Oper} {b off n : Nat} {v : Value} {cur : Array Value} {e : TypeId}
    (hv : evSt T E o = some (b, off, n, v)) (hp : plain v = some v) (hn : v.cells.size = n) (h1 : v.cells.toList.all (·.oneCell') = true)
    (hb : B ≤ b) (hc : W.heap[b]? = some (.cells cur e (0, 0))) (hl : off + n ≤ cur.size) :
    ∀ a w, EnvR E N a → cw B w = W → B ≤ w.heap.size → ∃ w', (execOp a.eval o).run P w = .ok .skip w' ∧ B ≤ w'.heap.size ∧ cw B w' = W.setRow b (splice cur off v.cells.toList) := by
  intro ac w ha hw hB
  unfold evSt at hv
  split at hv
  · rename_i t x y hop
    split at hv
    · rename_i d1 n1 b1 z1 ht
      obtain ⟨-, ii, hi, hs, -⟩ := hT _ _ ht
      simp only at hs
      split at hv
      · rename_i b' off' hx
        split at hv
        · rename_i v' hy
          cases hv
          have e1 := cv_pointer (ev_sound ha hx)
          have e2 := ev_sound ha hy
          obtain ⟨cur0, h2, h3⟩ := block_back hw hb hc
          have hcells := cells_cv e2 hp
          have hsz : (ac.eval y).cells.size = n := by rw [← hn, ← hcells]; simp
          have hcs : cur0.size = cur.size := by rw [← h3]; simp
          have hone : ∀ u ∈ (ac.eval y).cells.toList, u.oneCell' = true := by
            refine all_oneCell fun u hu => ?_
            rw [← Array.toList_map, hcells] at hu
            exact List.all_eq_true.1 h1 u hu
          have hst := run_storeCells_at P b off e (ac.eval y).cells.toList 0 cur0 w h2 (by simp [hsz]; omega) hone
          refine ⟨w.setRow b (splice cur0 off (ac.eval y).cells.toList), ?_, by simp; omega, ?_⟩
          · simp only [execOp, hop, e1]
            simp only [Nat.add_zero] at hst
            simp [Instr.storeAt, Instr.sureAddr, storeVar, sizeOf, typeInfo, hi, hs, hsz, hst, splice]
          · rw [cw_setRow hb, map_splice, h3, ← Array.toList_map, hcells, hw]
        · cases hv
      · cases hv
    · cases hv
  · cases hv

theorem aops_store {T : Tab} (hT : TabOk P T) {i : Nat} {rest : List Nat} {o : Oper} {b off n : Nat} {v : Value} {cur : Array Value} {e : TypeId} (ho : ops[i]? = some o) (hg : guardE ops o E = some true) (hd : o.dst = none)
    (hv : evSt T E o = some (b, off, n, v)) (hp : plain v = some v) (hn : v.cells.size = n) (h1 : v.cells.toList.all (·.oneCell') = true)
    (hb : B ≤ b) (hc : W.heap[b]? = some (.cells cur e (0, 0))) (hl : off + n ≤ cur.size)
    (k : AOps P N B ops rest K E (W.setRow b (splice cur off v.cells.toList))) : AOps P N B ops (i :: rest) K E W :=
  aops_skips ho hg hd (skips_store hT hv hp hn h1 hb hc hl) k
/-! ### append to a slice of the call's own -/
theorem ownsRow_back {w : World} (hw : cw B w = W) {base : Nat} (hb : B ≤ base) {e : TypeId} {size : Nat} {v : Value} {n : Nat} {xs : List Value} (h : W.ownsRow base e size v n xs) :
    ∃ us, w.ownsRow base e size v n us ∧ us.map cl = xs := by
  obtain ⟨hlen, h2⟩ := h
  rcases h2 with ⟨rfl, rfl⟩ | ⟨g, cap, cur, rfl, hg, hh, hn, hm, hs, ht⟩
  · refine ⟨[], ⟨by simp, .inl ⟨rfl, rfl⟩⟩, ?_⟩
    have : xs = [] := List.eq_nil_of_length_eq_zero (by simpa using hlen)
    simp [this]
  · obtain ⟨cur0, h3, h4⟩ := block_back hw (by omega) hh
    have hs0 : cur0.size = cap * size := by rw [← hs, ← h4]; simp
    refine ⟨cur0.toList.take (n * size), ⟨?_, .inr ⟨g, cap, cur0, rfl, hg, h3, hn, hm, hs0, rfl⟩⟩, ?_⟩
    · rw [List.length_take, Array.length_toList, hs0]
      exact Nat.min_eq_left (Nat.mul_le_mul_right _ hn)
    · rw [List.map_take, ← Array.toList_map, h4, ht]
theorem ownsRow_cw {w : World} {base : Nat} (hb : B ≤ base) {e : TypeId} {size : Nat} {v : Value} {n : Nat} {xs : List Value} (h : w.ownsRow base e size v n xs) : (cw B w).ownsRow base e size v n (xs.map cl) := by
  obtain ⟨hlen, h2⟩ := h
  refine ⟨by simpa using hlen, ?_⟩
  rcases h2 with ⟨rfl, rfl⟩ | ⟨g, cap, cur, rfl, hg, hh, hn, hm, hs, ht⟩
  · exact .inl ⟨rfl, rfl⟩
  · refine .inr ⟨g, cap, cur.map cl, rfl, hg, ?_, hn, hm, by simpa using hs, ?_⟩
    · rw [cw_heap, hh]; simp [show ¬ g < B by omega, co]
    · rw [Array.toList_map, ← List.map_take, ht]
theorem grownBy_cw {w w' : World} {row : Option Nat} (h : w.grownBy w' row) : (cw B w).grownBy (cw B w') row := by
  refine ⟨h.os, h.tape, h.output, by simp; exact h.size, ?_⟩
  intro k hk hr
  rw [cw_heap, cw_heap, h.block k (by simpa using hk) hr]
def evAp (T : Tab) (E : Env) (o : Oper) : Option (TypeId × Value × Value) :=
  match o.op with
  | .call ⟨.builtin .append, args, ts⟩ => match args.toList with
    | [x, y] => match ts.toList with
      | [t, t'] => match Nat.beq t t' with
        | true => match T.at t with
          | some ⟨.slice e, _, _, _⟩ => match ev E x with
            | some (.slice a n c) => match ev E y with
              | some (.slice a' n' c') => some (e, .slice a n c, .slice a' n' c')
              | _ => none
            | _ => none
          | _ => none
        | false => none
      | _ => none
    | _ => none
  | _ => none
theorem evAp_spec {T : Tab} (hT : TabOk P T) {o : Oper} {e : TypeId} {v u : Value} (h : evAp T E o = some (e, v, u)) : ∃ x y t, o.op = .call ⟨.builtin .append, #[x, y], #[t, t]⟩ ∧ P.underlying t = some (.slice e) ∧
    ∀ a, EnvR E N a → a.eval x = v ∧ a.eval y = u := by
  unfold evAp at h
  split at h
  · rename_i args ts ho
    split at h
    · rename_i x y hargs
      split at h
      · rename_i t t' hts
        have e1 : args = #[x, y] := by apply Array.toList_inj.1; rw [hargs]
        have e2 : ts = #[t, t'] := by apply Array.toList_inj.1; rw [hts]
        subst e1; subst e2
        cases hb : Nat.beq t t' with
        | false => rw [hb] at h; cases h
        | true =>
          rw [hb] at h
          have := Nat.eq_of_beq_eq_true hb
          subst this
          simp only at h
          split at h
          · rename_i e' s1 b1 z1 ht
            obtain ⟨hu, -⟩ := hT _ _ ht
            split at h
            · rename_i a n c hx
              split at h
              · rename_i a' n' c' hy
                cases h
                exact ⟨x, y, t, ho, hu, fun ac ha => ⟨cv_slice (ev_sound ha hx), cv_slice (ev_sound ha hy)⟩⟩
              · cases h
            · cases h
          · cases h
      · cases h
    · cases h
  · cases h
theorem yields_append {T : Tab} (hT : TabOk P T) {o : Oper} {e : TypeId} {tt : TT} {v : Value} {base n m c b off : Nat} {xs news : List Value}
    (hv : evAp T E o = some (e, v, .slice (some ⟨b, off, none⟩) m c)) (ht : T.at e = some tt)
    (hown : W.ownsRow base e tt.size v n xs) (hbase : B ≤ base) (hbase' : base ≤ W.heap.size)
    (hc : Cells W b off news) (hl : news.length = m * tt.size) (h1 : news.all (·.oneCell') = true) (hz : tt.zero.cells.size = tt.size) (hpos : 0 < tt.size)
    (h63 : n + m ≤ maxLen) (hbytes : (n + m) * tt.bytes ≤ 140737488355328) :
    Yields P N B o E W (fun v' W' => W'.ownsRow base e tt.size v' (n + m) (xs ++ news.map cl) ∧ W.grownBy W' v.ownBlock ∧ (v' = .slice none 0 0 ↔ v = .slice none 0 0 ∧ m = 0)) := by
  obtain ⟨x, y, t, hop, hu, hev⟩ := evAp_spec (N := N) hT hv
  obtain ⟨-, ii, hi, hs, hby, hzz⟩ := hT _ _ ht
  intro ac w ha hw hB
  obtain ⟨e1, e2⟩ := hev ac ha
  obtain ⟨us, hus, hxs⟩ := ownsRow_back hw hbase hown
  obtain ⟨ns, hn1, hn2, hn3⟩ := cells_back hw news b off hc
  have hsz : W.heap.size = w.heap.size := by rw [← hw]; simp
  obtain ⟨v', w', hr, ho', hg', hnil⟩ := run_append_own (P := P) w base t o.type e ii tt.zero tt.size tt.bytes hu hi hzz hs hby hz hpos v n us hus ⟨b, off, none⟩ m c ns (by rw [hn1]; exact hl)
    (fun j u hj => by rw [Addr.add_lit]; exact hn3 j u hj)
    (by
      refine all_oneCell fun u hu' => ?_
      rw [hn2] at hu'
      obtain ⟨u', hu1, rfl⟩ := List.mem_map.1 hu'
      rw [oneCell_cl]; exact List.all_eq_true.1 h1 u' hu1)
    h63 hbytes (by omega)
  have hcvv : cv v' = v' := by
    rcases ho'.2 with ⟨rfl, _⟩ | ⟨g, cap, cur, rfl, _⟩ <;> rfl
  refine ⟨v', w', run_builtin hop (fun cs => ?_), by have := hg'.size; omega, ?_⟩
  · simp [builtin, e1, e2, hr]
  · rw [hcvv]
    refine ⟨?_, by rw [← hw]; exact grownBy_cw hg', hnil⟩
    have := ownsRow_cw (B := B) hbase ho'
    rwa [List.map_append, hxs, hn2] at this
theorem aops_append {T : Tab} (hT : TabOk P T) {i : Nat} {rest : List Nat} {o : Oper} {e : TypeId} {tt : TT} {v : Value} {base n m c b off : Nat} {xs news : List Value}
    (ho : ops[i]? = some o) (hg : guardE ops o E = some true) (hd : dstOk N o.dst = true)
    (hv : evAp T E o = some (e, v, .slice (some ⟨b, off, none⟩) m c)) (ht : T.at e = some tt)
    (hown : W.ownsRow base e tt.size v n xs) (hbase : B ≤ base) (hbase' : base ≤ W.heap.size)
    (hc : Cells W b off news) (hl : news.length = m * tt.size) (h1 : news.all (·.oneCell') = true) (hz : tt.zero.cells.size = tt.size) (hpos : 0 < tt.size)
    (h63 : n + m ≤ maxLen) (hbytes : (n + m) * tt.bytes ≤ 140737488355328)
    (k : ∀ v' W', W'.ownsRow base e tt.size v' (n + m) (xs ++ news.map cl) → W.grownBy W' v.ownBlock → (v' = .slice none 0 0 ↔ v = .slice none 0 0 ∧ m = 0) → AOps P N B ops rest K (putE E o.dst v') W') : AOps P N B ops (i :: rest) K E W :=
  aops_yields ho hg hd (yields_append hT hv ht hown hbase hbase' hc hl h1 hz hpos h63 hbytes) (fun v' W' hR => k v' W' hR.1 hR.2.1 hR.2.2)
theorem aops_append_none {T : Tab} (hT : TabOk P T) {i : Nat} {rest : List Nat} {o : Oper} {e : TypeId} {tt : TT} {v : Value} {base n : Nat} {xs : List Value}
    (ho : ops[i]? = some o) (hg : guardE ops o E = some true) (hd : dstOk N o.dst = true)
    (hv : evAp T E o = some (e, v, .slice none 0 0)) (ht : T.at e = some tt)
    (hown : W.ownsRow base e tt.size v n xs) (hbase : B ≤ base)
    (k : AOps P N B ops rest K (putE E o.dst v) W) : AOps P N B ops (i :: rest) K E W := by
  obtain ⟨x, y, t, hop, hu, hev⟩ := evAp_spec (N := N) hT hv
  obtain ⟨-, ii, hi, hs, hby, hzz⟩ := hT _ _ ht
  refine aops_gives ho hg hd (gives_of fun ac w ha hw hB => ?_) k
  obtain ⟨e1, e2⟩ := hev ac ha
  obtain ⟨us, hus, hxs⟩ := ownsRow_back hw hbase hown
  have hr := run_append_owned_none (P := P) (w := w) base t o.type e ii tt.size hu hi v n us hus
  have hcvv : cv v = v := by
    rcases hus.2 with ⟨rfl, _⟩ | ⟨g, cap, cur, rfl, _⟩ <;> rfl
  exact ⟨v, w, run_builtin hop (fun cs => by simp [builtin, e1, e2, hr]), hcvv, rfl⟩

/-! ### calls -/
def Ent (P : Program) (f : FuncId) : Prop := ∀ (args : Array Value) (w : World), (callFunc f args).run P w = .ok (.enter f args) w
theorem ent_of {f : FuncId} {fn : Func} {c : Code} (hf : P.funcs[f]? = some fn) (hb : fn.body = some c) (hn : (fn.name == "runtime.NumGoroutine") = false) : Ent P f := by
  intro args w
  simp only [callFunc, Sem.run_bind, run_program, Result.andThen_ok, hf, hn, hb]
  simp
def evs (E : Env) : List Operand → Option (List Value)
  | [] => some []
  | x :: r => match ev E x with
    | some v => match evs E r with
      | some l => some (v :: l)
      | none => none
    | none => none
theorem evs_sound {a : Act} (ha : EnvR E N a) : ∀ (xs : List Operand) (l : List Value), evs E xs = some l → (xs.map a.eval).map cv = l := by
  intro xs
  induction xs with
  | nil => intro l h; simp [evs] at h; simp [h]
  | cons x xs ih =>
    intro l h
    unfold evs at h
    split at h
    · rename_i v hx
      split at h
      · rename_i l' hl'
        cases h
        simp only [List.map_cons]
        rw [ev_sound ha hx, ih l' hl']
      · cases h
    · cases h
/-- the function called, and the arguments; what a literal has captured comes last -/
def evC' (E : Env) (o : Oper) : Option (FuncId × List Value) :=
  match o.op with
  | .call ⟨.value fx, args, _⟩ => match ev E fx with
    | some (.func (.func f) first caps) => match first.toList with
      | [] => match evs E args.toList with
        | some l => match ptrs (caps.toList.map some) with
          | some cs => some (f, l ++ cs)
          | none => none
        | none => none
      | _ => none
    | _ => none
  | _ => none
theorem ptrs_self : ∀ (xs l : List Value), ptrs (xs.map some) = some l → xs = l ∧ l.map cv = l := by
  intro xs
  induction xs with
  | nil => intro l h; simp [ptrs] at h; simp [h]
  | cons x xs ih =>
    intro l h
    simp only [List.map_cons] at h
    unfold ptrs at h
    split at h
    · rename_i hh; cases hh
    · rename_i a' r heq
      injection heq with e1 e2
      subst e2
      split at h
      · rename_i l' hl'
        cases h
        obtain ⟨h1, h2⟩ := ih l' hl'
        cases e1
        exact ⟨by rw [h1], by simp [h2, cv, c1, cl]⟩
      · cases h
    · cases h
theorem aops_call {i : Nat} {rest : List Nat} {o : Oper} {f : FuncId} {args : List Value} {R : Value → World → Prop} (ho : ops[i]? = some o) (hg : guardE ops o E = some true) (hd : dstOk N o.dst = true)
    (hv : evC' E o = some (f, args)) (hE : Ent P f)
    (hc : ACalls P B f args W R) (k : ∀ v W', R v W' → AOps P N B ops rest K (putE E o.dst v) W') : AOps P N B ops (i :: rest) K E W := by
  refine aops_enter ho hg hd ?_ hc k
  intro a w ha hw hB
  unfold evC' at hv
  split at hv
  · rename_i fx as ts hop
    split at hv
    · rename_i f' first caps hfx
      split at hv
      · rename_i hfirst
        split at hv
        · rename_i l hl
          split at hv
          · rename_i cs hcs
            cases hv
            have e1 := cv_func (ev_sound ha hfx)
            have e2 := evs_sound ha as.toList l hl
            have e3 : first = #[] := by apply Array.toList_inj.1; rw [hfirst]
            obtain ⟨e4, e5⟩ := ptrs_self _ _ hcs
            subst e3
            refine ⟨as.map a.eval ++ caps, ?_, ?_⟩
            · simp only [execOp, hop, resolve, Deferred.ofValue, e1, invoke]
              simp only [Sem.run_bind, Sem.run_pure, Result.andThen_ok, Array.empty_append]
              exact hE _ w
            · rw [Array.toList_append, List.map_append, Array.toList_map, e2, e4, e5]
          · cases hv
        · cases hv
      · cases hv
    · cases hv
  · cases hv
end
end Go.Proofs.Ytmplincflbhmiaa.Cn
