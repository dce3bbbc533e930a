/- The rules once more, each at an operation that is written out: so that a frame stays a short list. -/
import Derived.Test.YtmplincflbhmiaaCn7
namespace Go.Proofs.Ytmplincflbhmiaa.Cn
set_option linter.unusedSimpArgs false
set_option linter.unusedVariables false
open Go Go.RowKit
/-- the i-th of a list, by its constructor -/
def getL : List Oper → Nat → Option Oper
  | [], _ => none
  | o :: r, i => match i with
    | 0 => some o
    | j + 1 => getL r j
theorem getL_eq : ∀ (l : List Oper) (i : Nat), getL l i = l[i]?
  | [], _ => rfl
  | _ :: _, 0 => rfl
  | _ :: r, j + 1 => by simpa [getL] using getL_eq r j
theorem getL_ok {ops : Array Oper} {i : Nat} {o : Oper} (h : getL ops.toList i = some o) : ops[i]? = some o := by
  rw [getL_eq] at h; simpa using h
section
variable {P : Program} {N B : Nat} {E : Env} {W : World} {ops : Array Oper} {K : Exit → Env → World → Prop}
theorem s_pass {i : Nat} {rest : List Nat} {d : Nat} {op : Op} {ty : TypeId} {pos : String} {aft : Array Edge} {g : Option (Nat × Bool)} (ho : getL ops.toList i = some ⟨some d, op, ty, pos, aft, g⟩) (hg : guardE ops ⟨some d, op, ty, pos, aft, g⟩ E = some false) (hd : Nat.ble (d + 1) N = true) (k : AOps P N B ops rest K (((d, undef) :: E)) W) : AOps P N B ops (i :: rest) K E W :=
  aops_pass (getL_ok ho) hg hd k
theorem s_pure {T : Tab} (hT : TabOk P T) {i : Nat} {rest : List Nat} {d : Nat} {op : Op} {ty : TypeId} {pos : String} {aft : Array Edge} {g : Option (Nat × Bool)} {v : Value} (ho : getL ops.toList i = some ⟨some d, op, ty, pos, aft, g⟩) (hg : guardE ops ⟨some d, op, ty, pos, aft, g⟩ E = some true) (hd : Nat.ble (d + 1) N = true) (hv : evP T E ⟨some d, op, ty, pos, aft, g⟩ = some v) (k : AOps P N B ops rest K (((d, v) :: E)) W) : AOps P N B ops (i :: rest) K E W :=
  aops_pure hT (getL_ok ho) hg hd hv k
theorem s_arith {T : Tab} (hT : TabOk P T) {i : Nat} {rest : List Nat} {d : Nat} {op : Op} {ty : TypeId} {pos : String} {aft : Array Edge} {g : Option (Nat × Bool)} {k : IntKind} {z : Int} (ho : getL ops.toList i = some ⟨some d, op, ty, pos, aft, g⟩) (hg : guardE ops ⟨some d, op, ty, pos, aft, g⟩ E = some true) (hd : Nat.ble (d + 1) N = true) (hv : evA T E ⟨some d, op, ty, pos, aft, g⟩ = some (k, z)) (hr : InR k z) (h : AOps P N B ops rest K (((d, (.int k z)) :: E)) W) : AOps P N B ops (i :: rest) K E W :=
  aops_arith hT (getL_ok ho) hg hd hv hr h
theorem s_wrap {T : Tab} (hT : TabOk P T) {i : Nat} {rest : List Nat} {d : Nat} {op : Op} {ty : TypeId} {pos : String} {aft : Array Edge} {g : Option (Nat × Bool)} {k : IntKind} {z : Int} (ho : getL ops.toList i = some ⟨some d, op, ty, pos, aft, g⟩) (hg : guardE ops ⟨some d, op, ty, pos, aft, g⟩ E = some true) (hd : Nat.ble (d + 1) N = true) (hv : evA T E ⟨some d, op, ty, pos, aft, g⟩ = some (k, z)) (h : AOps P N B ops rest K (((d, (.int k (k.wrap z))) :: E)) W) : AOps P N B ops (i :: rest) K E W :=
  aops_wrap hT (getL_ok ho) hg hd hv h
theorem s_div {i : Nat} {rest : List Nat} {d : Nat} {op : Op} {ty : TypeId} {pos : String} {aft : Array Edge} {g : Option (Nat × Bool)} {k : IntKind} {n m : Int} (ho : getL ops.toList i = some ⟨some d, op, ty, pos, aft, g⟩) (hg : guardE ops ⟨some d, op, ty, pos, aft, g⟩ E = some true) (hd : Nat.ble (d + 1) N = true) (hv : evD E ⟨some d, op, ty, pos, aft, g⟩ = some (.quo, k, n, m)) (h0 : 0 ≤ n) (h1 : 1 ≤ m) (hr : InR k n) (h : AOps P N B ops rest K (((d, (.int k (n / m))) :: E)) W) : AOps P N B ops (i :: rest) K E W :=
  aops_div (getL_ok ho) hg hd hv h0 h1 hr h
theorem s_rem {i : Nat} {rest : List Nat} {d : Nat} {op : Op} {ty : TypeId} {pos : String} {aft : Array Edge} {g : Option (Nat × Bool)} {k : IntKind} {n m : Int} (ho : getL ops.toList i = some ⟨some d, op, ty, pos, aft, g⟩) (hg : guardE ops ⟨some d, op, ty, pos, aft, g⟩ E = some true) (hd : Nat.ble (d + 1) N = true) (hv : evD E ⟨some d, op, ty, pos, aft, g⟩ = some (.rem, k, n, m)) (h0 : 0 ≤ n) (h1 : 1 ≤ m) (h : AOps P N B ops rest K (((d, (.int k (n % m))) :: E)) W) : AOps P N B ops (i :: rest) K E W :=
  aops_rem (getL_ok ho) hg hd hv h0 h1 h
theorem s_tdiv {i : Nat} {rest : List Nat} {d : Nat} {op : Op} {ty : TypeId} {pos : String} {aft : Array Edge} {g : Option (Nat × Bool)} {k : IntKind} {n m : Int} (ho : getL ops.toList i = some ⟨some d, op, ty, pos, aft, g⟩) (hg : guardE ops ⟨some d, op, ty, pos, aft, g⟩ E = some true) (hd : Nat.ble (d + 1) N = true) (hv : evD E ⟨some d, op, ty, pos, aft, g⟩ = some (.quo, k, n, m)) (h1 : m ≠ 0) (h : AOps P N B ops rest K (((d, (.int k (k.wrap (n.tdiv m)))) :: E)) W) : AOps P N B ops (i :: rest) K E W :=
  aops_tdiv (getL_ok ho) hg hd hv h1 h
theorem s_tmod {i : Nat} {rest : List Nat} {d : Nat} {op : Op} {ty : TypeId} {pos : String} {aft : Array Edge} {g : Option (Nat × Bool)} {k : IntKind} {n m : Int} (ho : getL ops.toList i = some ⟨some d, op, ty, pos, aft, g⟩) (hg : guardE ops ⟨some d, op, ty, pos, aft, g⟩ E = some true) (hd : Nat.ble (d + 1) N = true) (hv : evD E ⟨some d, op, ty, pos, aft, g⟩ = some (.rem, k, n, m)) (h1 : m ≠ 0) (h : AOps P N B ops rest K (((d, (.int k (n.tmod m))) :: E)) W) : AOps P N B ops (i :: rest) K E W :=
  aops_tmod (getL_ok ho) hg hd hv h1 h
theorem s_bits {i : Nat} {rest : List Nat} {d : Nat} {op : Op} {ty : TypeId} {pos : String} {aft : Array Edge} {g : Option (Nat × Bool)} {bop : BinOp} {k : IntKind} {n m : Int} (ho : getL ops.toList i = some ⟨some d, op, ty, pos, aft, g⟩) (hg : guardE ops ⟨some d, op, ty, pos, aft, g⟩ E = some true) (hd : Nat.ble (d + 1) N = true) (hv : evD E ⟨some d, op, ty, pos, aft, g⟩ = some (bop, k, n, m)) (hop : isBits bop = true) (h : AOps P N B ops rest K (((d, (.int k (bits bop k n m))) :: E)) W) : AOps P N B ops (i :: rest) K E W :=
  aops_bits (getL_ok ho) hg hd hv hop h
theorem s_shl {i : Nat} {rest : List Nat} {d : Nat} {op : Op} {ty : TypeId} {pos : String} {aft : Array Edge} {g : Option (Nat × Bool)} {k : IntKind} {n m : Int} (ho : getL ops.toList i = some ⟨some d, op, ty, pos, aft, g⟩) (hg : guardE ops ⟨some d, op, ty, pos, aft, g⟩ E = some true) (hd : Nat.ble (d + 1) N = true) (hv : evS E ⟨some d, op, ty, pos, aft, g⟩ = some (.shl, k, n, m)) (h0 : 0 ≤ m) (h1 : m ≤ k.bits) (h : AOps P N B ops rest K (((d, (.int k (k.wrap (n * 2 ^ m.toNat)))) :: E)) W) : AOps P N B ops (i :: rest) K E W :=
  aops_shl (getL_ok ho) hg hd hv h0 h1 h
theorem s_shr {i : Nat} {rest : List Nat} {d : Nat} {op : Op} {ty : TypeId} {pos : String} {aft : Array Edge} {g : Option (Nat × Bool)} {k : IntKind} {n m : Int} (ho : getL ops.toList i = some ⟨some d, op, ty, pos, aft, g⟩) (hg : guardE ops ⟨some d, op, ty, pos, aft, g⟩ E = some true) (hd : Nat.ble (d + 1) N = true) (hv : evS E ⟨some d, op, ty, pos, aft, g⟩ = some (.shr, k, n, m)) (h0 : 0 ≤ m) (h1 : m ≤ k.bits) (h : AOps P N B ops rest K (((d, (.int k (n / 2 ^ m.toNat))) :: E)) W) : AOps P N B ops (i :: rest) K E W :=
  aops_shr (getL_ok ho) hg hd hv h0 h1 h
theorem s_len {T : Tab} (hT : TabOk P T) {i : Nat} {rest : List Nat} {d : Nat} {op : Op} {ty : TypeId} {pos : String} {aft : Array Edge} {g : Option (Nat × Bool)} {v : Value} (ho : getL ops.toList i = some ⟨some d, op, ty, pos, aft, g⟩) (hg : guardE ops ⟨some d, op, ty, pos, aft, g⟩ E = some true) (hd : Nat.ble (d + 1) N = true) (hv : evL T E ⟨some d, op, ty, pos, aft, g⟩ = some v) (k : AOps P N B ops rest K (((d, v) :: E)) W) : AOps P N B ops (i :: rest) K E W :=
  aops_len hT (getL_ok ho) hg hd hv k
theorem s_index {T : Tab} (hT : TabOk P T) {i : Nat} {rest : List Nat} {d : Nat} {op : Op} {ty : TypeId} {pos : String} {aft : Array Edge} {g : Option (Nat × Bool)} {b off n sz : Nat} {ix : Int} (ho : getL ops.toList i = some ⟨some d, op, ty, pos, aft, g⟩) (hg : guardE ops ⟨some d, op, ty, pos, aft, g⟩ E = some true) (hd : Nat.ble (d + 1) N = true) (hv : evI T E ⟨some d, op, ty, pos, aft, g⟩ = some (b, off, n, ix, sz)) (h0 : 0 ≤ ix) (h1 : ix < n) (k : AOps P N B ops rest K (((d, (.pointer (some ⟨b, off + ix.toNat * sz, none⟩))) :: E)) W) : AOps P N B ops (i :: rest) K E W :=
  aops_index hT (getL_ok ho) hg hd hv h0 h1 k
theorem s_byte {T : Tab} (hT : TabOk P T) {i : Nat} {rest : List Nat} {d : Nat} {op : Op} {ty : TypeId} {pos : String} {aft : Array Edge} {g : Option (Nat × Bool)} {s : ByteArray} {ix : Int} (ho : getL ops.toList i = some ⟨some d, op, ty, pos, aft, g⟩) (hg : guardE ops ⟨some d, op, ty, pos, aft, g⟩ E = some true) (hd : Nat.ble (d + 1) N = true) (hv : evX T E ⟨some d, op, ty, pos, aft, g⟩ = some (s, ix)) (h0 : 0 ≤ ix) (h1 : ix < s.size) (k : AOps P N B ops rest K (((d, (.int .u8 (bt s ix.toNat))) :: E)) W) : AOps P N B ops (i :: rest) K E W :=
  aops_byte hT (getL_ok ho) hg hd hv h0 h1 k
theorem s_load {T : Tab} (hT : TabOk P T) {i : Nat} {rest : List Nat} {d : Nat} {op : Op} {ty : TypeId} {pos : String} {aft : Array Edge} {g : Option (Nat × Bool)} {a : Addr} {v : Value} (ho : getL ops.toList i = some ⟨some d, op, ty, pos, aft, g⟩) (hg : guardE ops ⟨some d, op, ty, pos, aft, g⟩ E = some true) (hd : Nat.ble (d + 1) N = true) (hv : evLd T E ⟨some d, op, ty, pos, aft, g⟩ = some a) (hc : W.cell? a = some v) (hp : cv (cl v) = cl v) (k : AOps P N B ops rest K (((d, (cl v)) :: E)) W) : AOps P N B ops (i :: rest) K E W :=
  aops_load hT (getL_ok ho) hg hd hv hc hp k
theorem s_loada {T : Tab} (hT : TabOk P T) {i : Nat} {rest : List Nat} {d : Nat} {op : Op} {ty : TypeId} {pos : String} {aft : Array Edge} {g : Option (Nat × Bool)} {b off n : Nat} {vs : List Value} (ho : getL ops.toList i = some ⟨some d, op, ty, pos, aft, g⟩) (hg : guardE ops ⟨some d, op, ty, pos, aft, g⟩ E = some true) (hd : Nat.ble (d + 1) N = true) (hv : evLa T E ⟨some d, op, ty, pos, aft, g⟩ = some (b, off, n)) (hc : Cells W b off vs) (hn : vs.length = n) (k : AOps P N B ops rest K (((d, (.agg (vs.map cl).toArray)) :: E)) W) : AOps P N B ops (i :: rest) K E W :=
  aops_loada hT (getL_ok ho) hg hd hv hc hn k
theorem s_alloc {T : Tab} (hT : TabOk P T) {i : Nat} {rest : List Nat} {d : Nat} {op : Op} {ty : TypeId} {pos : String} {aft : Array Edge} {g : Option (Nat × Bool)} {e : TypeId} {tt : TT} (ho : getL ops.toList i = some ⟨some d, op, ty, pos, aft, g⟩) (hop : op = .alloc e) (hg : guardE ops ⟨some d, op, ty, pos, aft, g⟩ E = some true) (hd : Nat.ble (d + 1) N = true) (ht : T.at e = some tt) (k : AOps P N B ops rest K (((d, (.pointer (some ⟨W.heap.size, 0, none⟩))) :: E)) (W.alloc (.cells (zerosOf tt.zero) e))) : AOps P N B ops (i :: rest) K E W :=
  aops_alloc hT (getL_ok ho) hop hg hd ht k
theorem s_box {i : Nat} {rest : List Nat} {d : Nat} {op : Op} {ty : TypeId} {pos : String} {aft : Array Edge} {g : Option (Nat × Bool)} {e : TypeId} {x : Operand} {v : Value} (ho : getL ops.toList i = some ⟨some d, op, ty, pos, aft, g⟩) (hop : op = .box e x) (hg : guardE ops ⟨some d, op, ty, pos, aft, g⟩ E = some true) (hd : Nat.ble (d + 1) N = true) (hx : ev E x = some v) (hp : plain v = some v) (k : AOps P N B ops rest K (((d, (.pointer (some ⟨W.heap.size, 0, none⟩))) :: E)) (W.alloc (.cells v.cells e))) : AOps P N B ops (i :: rest) K E W :=
  aops_box (getL_ok ho) hop hg hd hx hp k
theorem s_make {T : Tab} (hT : TabOk P T) {i : Nat} {rest : List Nat} {d : Nat} {op : Op} {ty : TypeId} {pos : String} {aft : Array Edge} {g : Option (Nat × Bool)} {e : TypeId} {tt : TT} {n m : Int} (ho : getL ops.toList i = some ⟨some d, op, ty, pos, aft, g⟩) (hg : guardE ops ⟨some d, op, ty, pos, aft, g⟩ E = some true) (hd : Nat.ble (d + 1) N = true) (hv : evMk T E ⟨some d, op, ty, pos, aft, g⟩ = some (e, n, m)) (ht : T.at e = some tt) (hz0 : 0 < tt.zero.cells.size) (h0 : 0 ≤ n) (h1 : n ≤ m) (h2 : (tt.bytes : Int) * m ≤ 281474976710656) (h3 : m ≤ 9223372036854775807) (k : AOps P N B ops rest K (((d, (.slice (some ⟨W.heap.size, 0, none⟩) n.toNat m.toNat)) :: E)) (W.alloc (.cells (madeCells (zerosOf tt.zero) (m.toNat * tt.size)) e))) : AOps P N B ops (i :: rest) K E W :=
  aops_make hT (getL_ok ho) hg hd hv ht hz0 h0 h1 h2 h3 k
theorem s_store {T : Tab} (hT : TabOk P T) {i : Nat} {rest : List Nat} {op : Op} {ty : TypeId} {pos : String} {aft : Array Edge} {g : Option (Nat × Bool)} {b off n : Nat} {v : Value} {cur : Array Value} {e : TypeId} (ho : getL ops.toList i = some ⟨none, op, ty, pos, aft, g⟩) (hg : guardE ops ⟨none, op, ty, pos, aft, g⟩ E = some true) (hv : evSt T E ⟨none, op, ty, pos, aft, g⟩ = some (b, off, n, v)) (hp : plain v = some v) (hn : v.cells.size = n) (h1 : v.cells.toList.all (·.oneCell') = true) (hb : B ≤ b) (hc : W.heap[b]? = some (.cells cur e (0, 0))) (hl : off + n ≤ cur.size) (k : AOps P N B ops rest K E (W.setRow b (splice cur off v.cells.toList))) : AOps P N B ops (i :: rest) K E W :=
  aops_store hT (getL_ok ho) hg rfl hv hp hn h1 hb hc hl k
theorem s_append {T : Tab} (hT : TabOk P T) {i : Nat} {rest : List Nat} {d : Nat} {op : Op} {ty : TypeId} {pos : String} {aft : Array Edge} {g : Option (Nat × Bool)} {e : TypeId} {tt : TT} {v : Value} {base n m c b off : Nat} {xs news : List Value} (ho : getL ops.toList i = some ⟨some d, op, ty, pos, aft, g⟩) (hg : guardE ops ⟨some d, op, ty, pos, aft, g⟩ E = some true) (hd : Nat.ble (d + 1) N = true) (hv : evAp T E ⟨some d, op, ty, pos, aft, g⟩ = some (e, v, .slice (some ⟨b, off, none⟩) m c)) (ht : T.at e = some tt) (hown : W.ownsRow base e tt.size v n xs) (hbase : B ≤ base) (hbase' : base ≤ W.heap.size) (hc : Cells W b off news) (hl : news.length = m * tt.size) (h1 : news.all (·.oneCell') = true) (hz : tt.zero.cells.size = tt.size) (hpos : 0 < tt.size) (h63 : n + m ≤ maxLen) (hbytes : (n + m) * tt.bytes ≤ 140737488355328) (k : ∀ v' W', W'.ownsRow base e tt.size v' (n + m) (xs ++ news.map cl) → W.grownBy W' v.ownBlock → (v' = .slice none 0 0 ↔ v = .slice none 0 0 ∧ m = 0) → AOps P N B ops rest K (((d, v') :: E)) W') : AOps P N B ops (i :: rest) K E W :=
  aops_append hT (getL_ok ho) hg hd hv ht hown hbase hbase' hc hl h1 hz hpos h63 hbytes k
theorem s_append_none {T : Tab} (hT : TabOk P T) {i : Nat} {rest : List Nat} {d : Nat} {op : Op} {ty : TypeId} {pos : String} {aft : Array Edge} {g : Option (Nat × Bool)} {e : TypeId} {tt : TT} {v : Value} {base n : Nat} {xs : List Value} (ho : getL ops.toList i = some ⟨some d, op, ty, pos, aft, g⟩) (hg : guardE ops ⟨some d, op, ty, pos, aft, g⟩ E = some true) (hd : Nat.ble (d + 1) N = true) (hv : evAp T E ⟨some d, op, ty, pos, aft, g⟩ = some (e, v, .slice none 0 0)) (ht : T.at e = some tt) (hown : W.ownsRow base e tt.size v n xs) (hbase : B ≤ base) (k : AOps P N B ops rest K (((d, v) :: E)) W) : AOps P N B ops (i :: rest) K E W :=
  aops_append_none hT (getL_ok ho) hg hd hv ht hown hbase k
theorem s_call {i : Nat} {rest : List Nat} {d : Nat} {op : Op} {ty : TypeId} {pos : String} {aft : Array Edge} {g : Option (Nat × Bool)} {f : FuncId} {args : List Value} {R : Value → World → Prop} (ho : getL ops.toList i = some ⟨some d, op, ty, pos, aft, g⟩) (hg : guardE ops ⟨some d, op, ty, pos, aft, g⟩ E = some true) (hd : Nat.ble (d + 1) N = true) (hv : evC' E ⟨some d, op, ty, pos, aft, g⟩ = some (f, args)) (hE : Ent P f) (hc : ACalls P B f args W R) (k : ∀ v W', R v W' → AOps P N B ops rest K (((d, v) :: E)) W') : AOps P N B ops (i :: rest) K E W :=
  aops_call (getL_ok ho) hg hd hv hE hc k
/-- where a guard is a Bool that is not told yet -/
def dstL : List Oper → Nat → Option Nat
  | [], _ => none
  | o :: r, i => match i with
    | 0 => o.dst
    | j + 1 => dstL r j
theorem s_part {i : Nat} {rest : List Nat} {d : Option Nat} {op : Op} {ty : TypeId} {pos : String} {aft : Array Edge} {j t : Nat} {want b : Bool} (_ho : getL ops.toList i = some ⟨d, op, ty, pos, aft, some (j, want)⟩)
    (_hj : dstL ops.toList j = some t) (hb : E.get t = some (.bool b)) (h1 : b = true → AOps P N B ops (i :: rest) K ((t, .bool true) :: E) W) (h2 : b = false → AOps P N B ops (i :: rest) K ((t, .bool false) :: E) W) :
    AOps P N B ops (i :: rest) K E W := aops_part hb h1 h2
/-- a guard that is told: used to see that it is -/
theorem s_told {i : Nat} {rest : List Nat} {o : Oper} {b : Bool} (_ho : getL ops.toList i = some o) (_hg : guardE ops o E = some b) (h : AOps P N B ops (i :: rest) K E W) : AOps P N B ops (i :: rest) K E W := h
/-- an index of a slice whose elements are of one cell -/
theorem s_index1 {T : Tab} (hT : TabOk P T) {i : Nat} {rest : List Nat} {d : Nat} {op : Op} {ty : TypeId} {pos : String} {aft : Array Edge} {g : Option (Nat × Bool)} {b off n : Nat} {ix : Int} (ho : getL ops.toList i = some ⟨some d, op, ty, pos, aft, g⟩)
    (hg : guardE ops ⟨some d, op, ty, pos, aft, g⟩ E = some true) (hd : Nat.ble (d + 1) N = true) (hv : evI T E ⟨some d, op, ty, pos, aft, g⟩ = some (b, off, n, ix, 1)) (h0 : 0 ≤ ix) (h1 : ix < n)
    (k : AOps P N B ops rest K ((d, .pointer (some ⟨b, off + ix.toNat, none⟩)) :: E) W) : AOps P N B ops (i :: rest) K E W :=
  s_index hT ho hg hd hv h0 h1 (by rw [Nat.mul_one]; exact k)
end
end Go.Proofs.Ytmplincflbhmiaa.Cn
