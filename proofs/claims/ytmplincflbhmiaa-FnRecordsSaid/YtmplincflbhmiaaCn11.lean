/- Regions that draw their order and write; slice literals; structs built. -/
import Derived.Test.YtmplincflbhmiaaCn10
import Derived.Great.BuildSlice
namespace Go.Proofs.Ytmplincflbhmiaa.Cn
set_option linter.unusedSimpArgs false
set_option linter.unusedVariables false
open Go Go.RowKit
section
variable {P : Program} {N B : Nat} {ops : Array Oper} {K : Exit → Env → World → Prop} {D : World → Prop} {E : Env} {W : World}

/-! ### a slice literal, every place written -/
def evParts (E : Env) : Nat → List (Nat × Operand) → Option (List Value)
  | _, [] => some []
  | n, (i, x) :: r => match Nat.beq i n with
    | true => match ev E x with
      | some v => match plain v with
        | some u => match evParts E (n + 1) r with
          | some vs => some (u :: vs)
          | none => none
        | none => none
      | none => none
    | false => none
def evBs (T : Tab) (E : Env) (o : Oper) : Option (TypeId × List Value) :=
  match o.op with
  | .buildSlice t len parts => match T.at t with
    | some ⟨.slice e, _, _, _⟩ => match evParts E 0 parts.toList with
      | some vs => match Nat.beq vs.length len with
        | true => some (e, vs)
        | false => none
      | none => none
    | _ => none
  | _ => none
theorem evParts_sound {a : Act} (ha : EnvR E N a) : ∀ (l : List (Nat × Operand)) (n : Nat) (vs : List Value), evParts E n l = some vs →
    ∃ us : List Value, (l.map fun x => (x.1, a.eval x.2)) = (us.zipIdx n).map (fun x => (x.2, x.1)) ∧ us.map (fun u => u.cells.map cl) = vs.map (·.cells) ∧ us.length = vs.length
  | [], n, vs, h => by
    cases h; exact ⟨[], rfl, rfl, rfl⟩
  | (i, x) :: r, n, vs, h => by
    simp only [evParts] at h
    cases hb : Nat.beq i n with
    | false => rw [hb] at h; cases h
    | true =>
      rw [hb] at h
      have := Nat.eq_of_beq_eq_true hb
      subst this
      simp only at h
      split at h
      · rename_i v hv
        split at h
        · rename_i u hu
          split at h
          · rename_i vs' hvs
            cases h
            obtain ⟨us, h1, h2, h3⟩ := evParts_sound ha r (i + 1) vs' hvs
            have hvu : u = v := by
              cases v <;> simp [plain] at hu <;> exact hu.symm
            subst hvu
            refine ⟨a.eval x :: us, ?_, ?_, ?_⟩
            · simp [h1, List.zipIdx_cons]
            · simp [h2, cells_cv (ev_sound ha hv) hu]
            · simp [h3]
          · cases h
        · cases h
      · cases h
theorem sum_cells {s : Nat} : ∀ (us vs : List Value), us.map (fun u => u.cells.map cl) = vs.map (·.cells) → us.length = vs.length → (∀ v ∈ vs, v.cells.size = s) → (∀ u ∈ us, u.cells.size = s)
  | [], _, _, _, _ => by simp
  | u :: us, [], h, _, _ => by simp at h
  | u :: us, v :: vs, h, hl, hs => by
    simp only [List.map_cons, List.cons.injEq] at h
    simp only [List.length_cons, Nat.add_right_cancel_iff] at hl
    intro x hx
    rcases List.mem_cons.1 hx with rfl | hx
    · have := hs v (by simp)
      rw [← h.1] at this
      simpa using this
    · exact sum_cells us vs h.2 hl (fun y hy => hs y (by simp [hy])) x hx
def cellsAll (vs : List Value) : Array Value := (vs.flatMap (·.cells.toList)).toArray
theorem cellsAll_map {us vs : List Value} (h : us.map (fun u => u.cells.map cl) = vs.map (·.cells)) : (cellsAll us).map cl = cellsAll vs := by
  unfold cellsAll
  have h1 : us.flatMap (fun u => (u.cells.map cl).toList) = vs.flatMap (fun v => v.cells.toList) := by
    have e1 : us.flatMap (fun u => (u.cells.map cl).toList) = (us.map (fun u => u.cells.map cl)).flatMap Array.toList := by rw [List.flatMap_map]
    have e2 : vs.flatMap (fun v => v.cells.toList) = (vs.map (·.cells)).flatMap Array.toList := by rw [List.flatMap_map]
    rw [e1, e2, h]
  rw [← h1]
  simp [List.map_flatMap]
theorem gives_buildSlice {T : Tab} (hT : TabOk P T) {o : Oper} {e : TypeId} {tt : TT} {vs : List Value} (hv : evBs T E o = some (e, vs)) (ht : T.at e = some tt) (hs : ∀ v ∈ vs, v.cells.size = tt.size) (hpos : 0 < tt.size) (_hz : tt.zero.cells.size ≠ 0) (hlen : vs.length * tt.size ≤ 16777216) :
    Gives P N B o E W (.slice (some ⟨W.heap.size, 0, none⟩) vs.length vs.length) (W.alloc (.cells (cellsAll vs) e)) := by
  intro ac w ha hw hB
  obtain ⟨-, ii, hi, hsz, -, hzz⟩ := hT _ _ ht
  unfold evBs at hv
  split at hv
  · rename_i t len parts hop
    split at hv
    · rename_i e' s1 b1 z1 htt
      obtain ⟨hu, -⟩ := hT _ _ htt
      simp only at hu
      split at hv
      · rename_i vs' hvs
        cases hb : Nat.beq vs'.length len with
        | false => rw [hb] at hv; cases hv
        | true =>
          rw [hb] at hv
          cases hv
          have := Nat.eq_of_beq_eq_true hb
          subst this
          obtain ⟨us, h1, h2, h3⟩ := evParts_sound ha _ _ _ hvs
          have hus := sum_cells us vs h2 h3 hs
          subst hw
          refine ⟨.slice (some ⟨w.heap.size, 0, none⟩) vs.length vs.length, w.alloc (.cells (cellsAll us) e), ?_, by simp; omega, by simp [cv, c1, cl], ?_⟩
          · simp only [execOp, hop]
            refine run_v ?_
            have hl : (parts.map fun (i, x) => (i, ac.eval x)).toList = (us.zipIdx).map (fun x => (x.2, x.1)) := by
              rw [Array.toList_map]; exact h1
            by_cases h0 : vs.length = 0
            · have hu0 : us = [] := List.length_eq_zero_iff.1 (by omega)
              subst hu0
              simp at hl
              subst hl
              have : (Array.range 0).map (fun _ : Nat => (default : Value)) = #[] := by simp
              simp [Instr.buildSlice, run_underlying hu, sizeOf, typeInfo, hi, h0, newRow, Instr.fill, cellsAll]
              rw [this]
            · refine run_buildSlice w t e vs.length _ (cellsAll us) ii tt.zero hu hi hzz (by rw [hsz]; omega) (by rw [hsz]; exact Nat.mul_ne_zero h0 (by omega)) ?_
              rw [hl, hsz]
              have := Great.fill_whole hpos us ((Array.range (vs.length * tt.size)).map (tt.zero.cells[· % tt.zero.cells.size]!)) hus (by simp [h3])
              exact this
          · rw [cw_alloc hB]
            simp only [co, cellsAll_map h2]
      · cases hv
    · cases hv
  · cases hv

/-! ### the same order, told: what only reads at its turn; what writes where nothing else can come up -/
def lst (n i : Nat) : Array Bool := (List.replicate i true ++ List.replicate (n - i) false).toArray
theorem lst_zero (n : Nat) : lst n 0 = Array.replicate n false := by simp [lst]
theorem lst_succ {n i : Nat} (h : i < n) : (lst n i).setIfInBounds i true = lst n (i + 1) := by
  apply Array.ext_getElem?
  intro k
  simp only [Array.getElem?_setIfInBounds, lst, List.getElem?_toArray, List.size_toArray, List.length_append, List.length_replicate]
  by_cases hk : i = k
  · subst hk
    rw [if_pos rfl, if_pos (by omega), List.getElem?_append_left (by simp)]
    simp
  · rw [if_neg hk]
    by_cases h1 : k < i
    · rw [List.getElem?_append_left (by simpa using h1), List.getElem?_append_left (by simp; omega)]
      rw [List.getElem?_replicate, List.getElem?_replicate, if_pos h1, if_pos (by omega)]
    · rw [List.getElem?_append_right (by simp; omega), List.getElem?_append_right (by simp; omega)]
      simp only [List.length_replicate, List.getElem?_replicate]
      by_cases h2 : k < n
      · rw [if_pos (by omega), if_pos (by omega)]
      · rw [if_neg (by omega), if_neg (by omega)]
def SD (P : Program) (N B : Nat) (ops : Array Oper) (D : World → Prop) (K : Exit → Env → World → Prop) (l : List Nat) (E : Env) (W : World) : Prop :=
  SA P N B ops D K l.length (lst ops.size (ops.size - l.length)) E W
/-- may be taken now, whatever else may come up -/
def may (ops : Array Oper) (i : Nat) (l : List Nat) : Bool :=
  Nat.beq (i + l.length + 1) ops.size && Region.noSelect ops && Region.free .any ops (lst ops.size i) i && (Region.ready .any ops (lst ops.size i)).contains i
/-- nothing else can come up now -/
def only (ops : Array Oper) (i : Nat) (l : List Nat) : Bool :=
  Nat.beq (i + l.length + 1) ops.size && (Region.ready .any ops (lst ops.size i) == [i])
theorem sd_quiet {i : Nat} {l : List Nat} {oi : Oper} {v : Value} (hi : ops[i]? = some oi) (hm : may ops i l = true) (hK : Lax K) (hy : YQ P N B ops D oi v E) (h : SD P N B ops D K l (putE E oi.dst v) W) : SD P N B ops D K (i :: l) E W := by
  unfold may at hm
  simp only [Bool.and_eq_true] at hm
  have e := Nat.eq_of_beq_eq_true hm.1.1.1
  unfold SD at h ⊢
  simp only [List.length_cons]
  rw [show ops.size - (l.length + 1) = i by omega]
  rw [show ops.size - l.length = i + 1 by omega, ← lst_succ (by omega)] at h
  exact sa_first hi hm.1.1.2 hK hm.1.2 hm.2 hy h
theorem sd_single {i : Nat} {l : List Nat} {oi : Oper} {R : Value → World → Prop} (hi : ops[i]? = some oi) (hm : only ops i l = true) (hd : dstOk N oi.dst = true) (hR : ∀ a w, EnvR E N a → cw B w = W → B ≤ w.heap.size → SRun P B ops oi a w R)
    (h : ∀ v W', R v W' → D W' ∧ SD P N B ops D K l (putE E oi.dst v) W') : SD P N B ops D K (i :: l) E W := by
  unfold only at hm
  simp only [Bool.and_eq_true] at hm
  have e := Nat.eq_of_beq_eq_true hm.1
  unfold SD at h ⊢
  simp only [List.length_cons]
  rw [show ops.size - (l.length + 1) = i by omega]
  rw [show ops.size - l.length = i + 1 by omega, ← lst_succ (by omega)] at h
  refine sa_all (eq_of_beq hm.2) (by simp) fun j hj => ?_
  rw [List.mem_singleton] at hj
  subst hj
  exact ⟨oi, hi, hd, R, hR, h⟩
theorem ready_lst (n : Nat) (ops : Array Oper) (h : n = ops.size) : Region.ready .any ops (lst n n) = [] := by
  subst h
  unfold Region.ready
  rw [List.filter_eq_nil_iff]
  intro i hi
  have : i < ops.size := by simpa using hi
  simp [lst, this]
theorem sd_done (h : D W → K .normal E W) : SD P N B ops D K [] E W := by
  unfold SD
  exact sa_done (ready_lst _ _ rfl) h _
/-- a region in which something is written -/
theorem aw_busy {id : Nat} (hm : P.follows .mixedOrders = true) (D : World → Prop) (hD : D W) (h : SD P N B ops D K (upFrom ops.size 0) E W) : AW P N B (.region id ops true) K E W := by
  refine aw_draw hm D hD ?_
  unfold SD at h
  rw [upFrom_eq, List.length_range', Nat.sub_self, lst_zero] at h
  exact h
section steps
variable {T : Tab} {i : Nat} {rest : List Nat} {d : Nat} {op : Op} {ty : TypeId} {pos : String} {aft : Array Edge} {g : Option (Nat × Bool)}
theorem d_gives (hK : Lax K) {v : Value} (ho : getL ops.toList i = some ⟨some d, op, ty, pos, aft, g⟩) (hg : guardE ops ⟨some d, op, ty, pos, aft, g⟩ E = some true) (hd : Nat.ble (d + 1) N = true) (hm : may ops i rest = true)
    (hy : ∀ W, D W → Gives P N B ⟨some d, op, ty, pos, aft, g⟩ E W v W) (k : SD P N B ops D K rest ((d, v) :: E) W) : SD P N B ops D K (i :: rest) E W :=
  sd_quiet (getL_ok ho) hm hK (yq_gives hd hg hy) k
theorem d_pure (hT : TabOk P T) (hK : Lax K) {v : Value} (ho : getL ops.toList i = some ⟨some d, op, ty, pos, aft, g⟩) (hg : guardE ops ⟨some d, op, ty, pos, aft, g⟩ E = some true) (hd : Nat.ble (d + 1) N = true)
    (hv : evP T E ⟨some d, op, ty, pos, aft, g⟩ = some v) (hm : may ops i rest = true) (k : SD P N B ops D K rest ((d, v) :: E) W) : SD P N B ops D K (i :: rest) E W := d_gives hK ho hg hd hm (fun _ _ => gives_evP hT hv) k
theorem d_len (hT : TabOk P T) (hK : Lax K) {v : Value} (ho : getL ops.toList i = some ⟨some d, op, ty, pos, aft, g⟩) (hg : guardE ops ⟨some d, op, ty, pos, aft, g⟩ E = some true) (hd : Nat.ble (d + 1) N = true)
    (hv : evL T E ⟨some d, op, ty, pos, aft, g⟩ = some v) (hm : may ops i rest = true) (k : SD P N B ops D K rest ((d, v) :: E) W) : SD P N B ops D K (i :: rest) E W := d_gives hK ho hg hd hm (fun _ _ => gives_evL hT hv) k
theorem d_arith (hT : TabOk P T) (hK : Lax K) {k' : IntKind} {z : Int} (ho : getL ops.toList i = some ⟨some d, op, ty, pos, aft, g⟩) (hg : guardE ops ⟨some d, op, ty, pos, aft, g⟩ E = some true) (hd : Nat.ble (d + 1) N = true)
    (hv : evA T E ⟨some d, op, ty, pos, aft, g⟩ = some (k', z)) (hr : InR k' z) (hm : may ops i rest = true) (k : SD P N B ops D K rest ((d, .int k' z) :: E) W) : SD P N B ops D K (i :: rest) E W :=
  d_gives hK ho hg hd hm (fun _ _ => gives_evA hT hv) (by rw [wrap_inR hr]; exact k)
theorem d_index1 (hT : TabOk P T) (hK : Lax K) {b off n : Nat} {ix : Int} (ho : getL ops.toList i = some ⟨some d, op, ty, pos, aft, g⟩) (hg : guardE ops ⟨some d, op, ty, pos, aft, g⟩ E = some true) (hd : Nat.ble (d + 1) N = true)
    (hv : evI T E ⟨some d, op, ty, pos, aft, g⟩ = some (b, off, n, ix, 1)) (h0 : 0 ≤ ix) (h1 : ix < n) (hm : may ops i rest = true) (k : SD P N B ops D K rest ((d, .pointer (some ⟨b, off + ix.toNat, none⟩)) :: E) W) : SD P N B ops D K (i :: rest) E W :=
  d_gives hK ho hg hd hm (fun _ _ => gives_index hT hv h0 h1) (by rw [Nat.mul_one]; exact k)
theorem d_load (hT : TabOk P T) (hK : Lax K) {a : Addr} {v : Value} (ho : getL ops.toList i = some ⟨some d, op, ty, pos, aft, g⟩) (hg : guardE ops ⟨some d, op, ty, pos, aft, g⟩ E = some true) (hd : Nat.ble (d + 1) N = true)
    (hv : evLd T E ⟨some d, op, ty, pos, aft, g⟩ = some a) (hc : ∀ W, D W → W.cell? a = some v) (hp : cv (cl v) = cl v) (hm : may ops i rest = true) (k : SD P N B ops D K rest ((d, cl v) :: E) W) : SD P N B ops D K (i :: rest) E W :=
  d_gives hK ho hg hd hm (fun W hD => gives_load hT hv (hc W hD) hp) k
theorem d_loadf (hT : TabOk P T) (hK : Lax K) {a : Addr} {fk : FloatKind} {x : Nat} (ho : getL ops.toList i = some ⟨some d, op, ty, pos, aft, g⟩) (hg : guardE ops ⟨some d, op, ty, pos, aft, g⟩ E = some true) (hd : Nat.ble (d + 1) N = true)
    (hv : evLd T E ⟨some d, op, ty, pos, aft, g⟩ = some a) (hc : ∃ y, (∀ W, D W → W.cell? a = some (.float fk y)) ∧ cb fk y = x) (hm : may ops i rest = true) (k : SD P N B ops D K rest ((d, .float fk x) :: E) W) : SD P N B ops D K (i :: rest) E W := by
  obtain ⟨y, h1, rfl⟩ := hc
  exact d_load hT hK ho hg hd hv h1 (by simp [cl, cv, c1, cb_cb]) hm (by simpa [cl] using k)
theorem d_loada (hT : TabOk P T) (hK : Lax K) {b off n : Nat} {vs : List Value} (ho : getL ops.toList i = some ⟨some d, op, ty, pos, aft, g⟩) (hg : guardE ops ⟨some d, op, ty, pos, aft, g⟩ E = some true) (hd : Nat.ble (d + 1) N = true)
    (hv : evLa T E ⟨some d, op, ty, pos, aft, g⟩ = some (b, off, n)) (hc : ∀ W, D W → Cells W b off vs) (hn : vs.length = n) (hm : may ops i rest = true) (k : SD P N B ops D K rest ((d, .agg (vs.map cl).toArray) :: E) W) : SD P N B ops D K (i :: rest) E W :=
  d_gives hK ho hg hd hm (fun W hD => gives_loada hT hv (hc W hD) hn) k
theorem d_pass (hK : Lax K) (ho : getL ops.toList i = some ⟨some d, op, ty, pos, aft, g⟩) (hg : guardE ops ⟨some d, op, ty, pos, aft, g⟩ E = some false) (hd : Nat.ble (d + 1) N = true) (hm : may ops i rest = true) (k : SD P N B ops D K rest ((d, undef) :: E) W) : SD P N B ops D K (i :: rest) E W :=
  sd_quiet (getL_ok ho) hm hK (yq_pass hd hg) k
/-- a call that only reads -/
theorem d_qcall (hK : Lax K) {f : FuncId} {args : List Value} {v : Value} (ho : getL ops.toList i = some ⟨some d, op, ty, pos, aft, g⟩) (hg : guardE ops ⟨some d, op, ty, pos, aft, g⟩ E = some true) (hd : Nat.ble (d + 1) N = true)
    (hv : evC' E ⟨some d, op, ty, pos, aft, g⟩ = some (f, args)) (hE : Ent P f) (hc : ∀ W, D W → ACalls P B f args W (fun v' W' => v' = v ∧ W' = W)) (hm : may ops i rest = true) (k : SD P N B ops D K rest ((d, v) :: E) W) : SD P N B ops D K (i :: rest) E W :=
  sd_quiet (getL_ok ho) hm hK (yq_call hd hg hv hE hc) k
/-- a call that writes -/
theorem d_call {f : FuncId} {args : List Value} {R : Value → World → Prop} (ho : getL ops.toList i = some ⟨some d, op, ty, pos, aft, g⟩) (hg : guardE ops ⟨some d, op, ty, pos, aft, g⟩ E = some true) (hd : Nat.ble (d + 1) N = true)
    (hv : evC' E ⟨some d, op, ty, pos, aft, g⟩ = some (f, args)) (hm : only ops i rest = true) (hE : Ent P f) (hc : ACalls P B f args W R) (k : ∀ v W', R v W' → D W' ∧ SD P N B ops D K rest ((d, v) :: E) W') : SD P N B ops D K (i :: rest) E W :=
  sd_single (getL_ok ho) hm hd (srun_call hg hv hE hc) k
theorem d_yields {R : Value → World → Prop} (ho : getL ops.toList i = some ⟨some d, op, ty, pos, aft, g⟩) (hg : guardE ops ⟨some d, op, ty, pos, aft, g⟩ E = some true) (hd : Nat.ble (d + 1) N = true)
    (hm : only ops i rest = true) (hy : Yields P N B ⟨some d, op, ty, pos, aft, g⟩ E W R) (k : ∀ v W', R v W' → D W' ∧ SD P N B ops D K rest ((d, v) :: E) W') : SD P N B ops D K (i :: rest) E W :=
  sd_single (getL_ok ho) hm hd (srun_yields hg hy) k
theorem d_buildSlice (hT : TabOk P T) {e : TypeId} {tt : TT} {vs : List Value} (ho : getL ops.toList i = some ⟨some d, op, ty, pos, aft, g⟩) (hg : guardE ops ⟨some d, op, ty, pos, aft, g⟩ E = some true) (hd : Nat.ble (d + 1) N = true)
    (hv : evBs T E ⟨some d, op, ty, pos, aft, g⟩ = some (e, vs)) (ht : T.at e = some tt) (hm : only ops i rest = true) (hs : ∀ v ∈ vs, v.cells.size = tt.size) (hpos : 0 < tt.size) (hz : tt.zero.cells.size ≠ 0) (hlen : vs.length * tt.size ≤ 16777216)
    (hD : D (W.alloc (.cells (cellsAll vs) e))) (k : SD P N B ops D K rest ((d, .slice (some ⟨W.heap.size, 0, none⟩) vs.length vs.length) :: E) (W.alloc (.cells (cellsAll vs) e))) : SD P N B ops D K (i :: rest) E W :=
  d_yields ho hg hd hm (gives_buildSlice hT hv ht hs hpos hz hlen) (fun _ _ ⟨h1, h2⟩ => by subst h1; subst h2; exact ⟨hD, k⟩)
theorem d_append (hT : TabOk P T) {e : TypeId} {tt : TT} {v : Value} {base n m c b off : Nat} {xs news : List Value} (ho : getL ops.toList i = some ⟨some d, op, ty, pos, aft, g⟩) (hg : guardE ops ⟨some d, op, ty, pos, aft, g⟩ E = some true) (hd : Nat.ble (d + 1) N = true)
    (hv : evAp T E ⟨some d, op, ty, pos, aft, g⟩ = some (e, v, .slice (some ⟨b, off, none⟩) m c)) (ht : T.at e = some tt) (hm : only ops i rest = true)
    (hown : W.ownsRow base e tt.size v n xs) (hbase : B ≤ base) (hbase' : base ≤ W.heap.size)
    (hc : Cells W b off news) (hl : news.length = m * tt.size) (h1 : news.all (·.oneCell') = true) (hz : tt.zero.cells.size = tt.size) (hpos : 0 < tt.size)
    (h63 : n + m ≤ maxLen) (hbytes : (n + m) * tt.bytes ≤ 140737488355328)
    (k : ∀ v' W', W'.ownsRow base e tt.size v' (n + m) (xs ++ news.map cl) → W.grownBy W' v.ownBlock → (v' = .slice none 0 0 ↔ v = .slice none 0 0 ∧ m = 0) → D W' ∧ SD P N B ops D K rest ((d, v') :: E) W') : SD P N B ops D K (i :: rest) E W :=
  d_yields ho hg hd hm (yields_append hT hv ht hown hbase hbase' hc hl h1 hz hpos h63 hbytes) (fun v' W' hR => k v' W' hR.1 hR.2.1 hR.2.2)
theorem s_buildSlice (hT : TabOk P T) {e : TypeId} {tt : TT} {vs : List Value} (ho : getL ops.toList i = some ⟨some d, op, ty, pos, aft, g⟩) (hg : guardE ops ⟨some d, op, ty, pos, aft, g⟩ E = some true) (hd : Nat.ble (d + 1) N = true)
    (hv : evBs T E ⟨some d, op, ty, pos, aft, g⟩ = some (e, vs)) (ht : T.at e = some tt) (hs : ∀ v ∈ vs, v.cells.size = tt.size) (hpos : 0 < tt.size) (hz : tt.zero.cells.size ≠ 0) (hlen : vs.length * tt.size ≤ 16777216)
    (k : AOps P N B ops rest K ((d, .slice (some ⟨W.heap.size, 0, none⟩) vs.length vs.length) :: E) (W.alloc (.cells (cellsAll vs) e))) : AOps P N B ops (i :: rest) K E W :=
  aops_gives (getL_ok ho) hg hd (gives_buildSlice hT hv ht hs hpos hz hlen) k
end steps
end
attribute [irreducible] SD
end Go.Proofs.Ytmplincflbhmiaa.Cn
